import Derived.Test.YtimedjfpihdffaaGreatFxA
import Derived.Test.YtimedjfpihdffaaGreatCd
import Derived.Test.YtimedjfpihdffaaGreatBa
import Derived.Test.YtimedjfpihdffaaGreatCdL
set_option linter.unusedVariables false
set_option linter.unusedSimpArgs false
set_option maxHeartbeats 16000000
namespace Go.Fw
open Go
def zig (n:Int):Nat:=if n < 0 then (-2*n - 1).toNat else (2*n).toNat
def zag (u:Nat):Int:=if u % 2=1 then -((u / 2:Nat):Int) - 1 else ((u / 2:Nat):Int)
def EK:Nat→Nat→List UInt8
 | 0,_=>[]
 | f+1,u=>if u < 128 then [UInt8.ofNat u] else UInt8.ofNat (u % 128+128)::EK f (u / 128)
def cQ (n:Int):List UInt8:=EK 10 (zig n)
def cC (s:ByteArray):List UInt8:=cQ s.size++s.data.toList
def Le (f:Bool):List UInt8:=if f then [1] else [0]
structure RS where
 pos:Nat
 wr:Int
def Bv:List UInt8→Nat→Nat→Int ⊕ (Nat×Nat)
 | [],_,_=>.inl 3
 | c::r,i,u=>if (0 < i∧c.toNat=0)∨(i=9∧1 < c.toNat) then .inl 4 else if c.toNat < 128 then .inr (u+c.toNat*2 ^ (7*i),i+1) else Bv r (i+1) (u+c.toNat % 128*2 ^ (7*i))
def qxx (s:RS):Int ⊕ (Nat×Nat)→Int×RS
 | .inl e=>(0,⟨s.pos,e⟩)
 | .inr (u,k)=>(zag u,⟨s.pos+k,s.wr⟩)
def RS.num (b:List UInt8) (s:RS):Int×RS:=if s.wr≠0 then (0,s) else qxx s (Bv (b.drop s.pos) 0 0)
def RS.count (b:List UInt8) (s:RS) (most:Int):Int×RS :=
 if (s.num b).2.wr=0∧((s.num b).1 < 0∨most < (s.num b).1) then (0,⟨s.pos,2⟩) else s.num b
def RS.text (b:List UInt8) (s:RS) (most:Int):ByteArray×RS :=
 if (s.count b most).2.wr≠0 then (noB,(s.count b most).2) else
 if ((b.length - (s.count b most).2.pos:Nat):Int) < (s.count b most).1 then (noB,⟨s.pos,3⟩) else
 (⟨((b.drop (s.count b most).2.pos).take (s.count b most).1.toNat).toArray⟩,⟨(s.count b most).2.pos+(s.count b most).1.toNat,0⟩)
def RS.flag (b:List UInt8) (s:RS):Bool×RS :=
 if s.wr≠0 then (false,s) else
 match b[s.pos]? with
 | none=>(false,⟨s.pos,3⟩)
 | some c=>if 1 < c.toNat then (false,⟨s.pos,4⟩) else (decide (c.toNat=1),⟨s.pos+1,0⟩)
def RS.fin (b:List UInt8) (s:RS):RS:=if s.wr=0∧s.pos < b.length then ⟨s.pos,5⟩ else s
def RS.bad (s:RS):RS:=if s.wr=0 then ⟨s.pos,4⟩ else s
theorem PA:∀ (l:List UInt8) (i u:Nat) {x k:Nat},Bv l i u=.inr (x,k)→i < k∧k≤i+l.length
 | [],_,_,_,_,h=>by cases h
 | c::r,i,u,x,k,h=>by
  simp only [Bv] at h
  split at h
  ·cases h
  ·split at h
   ·cases h;simp
   ·have:=PA r _ _ h
    simp;omega
theorem RS.qQV (b:List UInt8) (s:RS) (h:s.pos≤b.length):s.pos≤(s.num b).2.pos∧(s.num b).2.pos≤b.length:=by
 unfold RS.num
 split
 ·exact ⟨Nat.le_refl _,h⟩
 ·cases hn:Bv (b.drop s.pos) 0 0 with
  | inl e=>exact ⟨Nat.le_refl _,h⟩
  | inr p =>
   obtain ⟨u,k⟩:=p
   have:=PA _ _ _ hn
   simp only [List.length_drop] at this
   simp only [qxx];omega
theorem RS.qQW {b:List UInt8} {s:RS} (h:s.wr≠0):s.num b=(0,s):=by simp [RS.num,h]
theorem RS.qwz {b:List UInt8} {s:RS} (h:s.wr≠0):s.flag b=(false,s):=by simp [RS.flag,h]
theorem RS.qxu (b:List UInt8) (s:RS) (k:Int) (h:s.pos≤b.length):s.pos≤(s.count b k).2.pos∧(s.count b k).2.pos≤b.length:=by
 unfold RS.count
 split
 ·exact ⟨Nat.le_refl _,h⟩
 ·exact s.qQV b h
theorem RS.count_range (b:List UInt8) (s:RS) (k:Int) (h0:0≤k) (h:(s.count b k).2.wr=0):0≤(s.count b k).1∧(s.count b k).1≤k:=by
 unfold RS.count at *
 split at h
 ·cases h
 ·rename_i h1
  rw [if_neg h1]
  by_cases h2:(s.num b).2.wr=0
  ·constructor
   ·exact Int.not_lt.1 fun h3=>h1 ⟨h2,.inl h3⟩
   ·exact Int.not_lt.1 fun h3=>h1 ⟨h2,.inr h3⟩
  ·exact absurd h h2
theorem qwP (n:Int):zag (zig n)=n:=by unfold zag zig;split<;>split<;>omega
theorem qxT (n:Int) (h : -9223372036854775808≤n∧n≤9223372036854775807):zig n < 2 ^ 64:=by unfold zig;split<;>omega
theorem IT:∀ (f u i a:Nat) (r:List UInt8),u < 2 ^ (64 - 7*i)→10≤f+i→i≤9→(i=0∨0 < u)→Bv (EK f u++r) i a=.inr (a+u*2 ^ (7*i),i+(EK f u).length)
 | 0,u,i,a,r,hu,hf,hi,h0=>by omega
 | f+1,u,i,a,r,hu,hf,hi,h0=>by
  simp only [EK]
  split
  ·rename_i hlt
   have ht:(UInt8.ofNat u).toNat=u:=by simp;omega
   have h9:¬ ((0 < i∧u=0)∨(i=9∧1 < u)):=by
    rintro (h | ⟨rfl,h⟩)
    ·omega
    ·have:(2:Nat) ^ (64 - 7*9)=2:=by decide
     omega
   simp only [List.cons_append,List.nil_append,Bv,ht,if_neg h9,if_pos hlt];rfl
  ·rename_i hge
   have ht:(UInt8.ofNat (u % 128+128)).toNat=u % 128+128:=by simp;omega
   have hi9:i≠9:=by
    rintro rfl
    have:(2:Nat) ^ (64 - 7*9)=2:=by decide
    omega
   have h9:¬ ((0 < i∧u % 128+128=0)∨(i=9∧1 < u % 128+128)):=by omega
   simp only [List.cons_append,Bv,ht,if_neg h9,if_neg (show ¬ u % 128+128 < 128 by omega)]
   have hp:(2:Nat) ^ (64 - 7*i)=2 ^ (64 - 7*(i+1))*128:=by
    rw [show 64 - 7*i=(64 - 7*(i+1))+7 from by omega,Nat.pow_add]
   rw [IT f (u / 128) (i+1) _ r (by rw [hp] at hu;exact Nat.div_lt_of_lt_mul (by rw [Nat.mul_comm];exact hu)) (by omega) (by omega) (by omega)]
   have hpow:(2:Nat) ^ (7*(i+1))=128*2 ^ (7*i):=by rw [show 7*(i+1)=7+7*i from by omega,Nat.pow_add]
   have e1:a+(u % 128+128) % 128*2 ^ (7*i)+u / 128*2 ^ (7*(i+1))=a+u*2 ^ (7*i):=by
    rw [hpow,Nat.add_assoc,← Nat.mul_assoc,← Nat.add_mul]
    have:(u % 128+128) % 128+u / 128*128=u:=by omega
    rw [this]
   rw [e1,List.length_cons]
   congr 2;omega
end Go.Fw
namespace Go.Fw
open Go.Proofs
def bk (v:Value) (b:List UInt8):List Nat:=if b=[] then [] else qH v
theorem qqI {v:Value} {b:List UInt8}:∀ x∈bk v b,x∈qH v:=fun x hx=>by
 unfold bk at hx;split at hx
 ·cases hx
 ·exact hx
theorem RdB.there {m:Mem} {v:Value} {b:List UInt8} (h:RdB m v b):∀ x∈bk v b,m x≠none:=fun x hx=>by
 unfold bk at hx;split at hx
 ·cases hx
 ·rename_i hne
  obtain ⟨_,a,c,rfl,_,hr⟩:=h
  rcases hr with h0 | ⟨bb,o,rfl,hc⟩
  ·have:=qjv b
   rw [bys,h0] at this
   exact absurd (List.eq_nil_of_length_eq_zero (by simpa using this.symm)) hne
  ·simp only [qH,List.mem_singleton] at hx;subst hx
   have h1:0 < b.length:=List.length_pos_iff.2 hne
   have h2:=hc 0 _ (List.getElem?_eq_getElem (by rw [jI qqM];omega))
   intro e;rw [e] at h2;cases h2
theorem RdB.stk {m m':Mem} {v:Value} {b:List UInt8} (h:RdB m v b) (e:∀ x∈bk v b,m' x=m x):RdB m' v b:=by
 by_cases hne:b=[]
 ·subst hne
  obtain ⟨hk,a,c,rfl,hc,_⟩:=h
  exact ⟨hk,a,c,rfl,hc,.inl rfl⟩
 ·exact h.st fun x hx=>e x (by unfold bk;rw [if_neg hne];exact hx)
def xe (t rb:Nat) (a:Option Addr) (c:Nat) (b:List UInt8) (s:RS):As where
 fp:=rb::bk (.slice a b.length c) b
 wp:=[rb]
 sub _ h:=by simp at h;simp [h]
 p m:=m rb=some (.cells [Value.slice a b.length c,.int .i64 s.pos,.int .i64 s.wr].toArray t (0,0))∧RdB m (.slice a b.length c) b∧rb∉bk (.slice a b.length c) b∧(∀ x∈bk (.slice a b.length c) b,m x≠none)∧s.pos≤b.length∧b.length≤1099511627776
 st h e:=⟨by rw [e _ (by simp)];exact h.1,RdB.stk h.2.1 fun x hx=>e x (List.mem_cons_of_mem _ hx),h.2.2.1,fun x hx=>by rw [e x (List.mem_cons_of_mem _ hx)];exact h.2.2.2.1 x hx,h.2.2.2.2⟩
 th h x hx:=by
  rcases List.mem_cons.1 hx with rfl | hx
  ·rw [h.1];exact Option.some_ne_none _
  ·exact h.2.2.2.1 x hx
instance {t rb:Nat} {a:Option Addr} {c:Nat} {b:List UInt8} {s:RS} {L:List As} {G:List (Nat×Obj)} [I:bG L G]:bG (xe t rb a c b s::L) ((rb,.cells [Value.slice a b.length c,.int .i64 s.pos,.int .i64 s.wr].toArray t (0,0))::G):=⟨fun m h=>⟨h.1.1,I.h m h.2⟩⟩
instance {t rb:Nat} {a:Option Addr} {c:Nat} {b:List UInt8} {s s':RS}:LC (xe t rb a c b s') (xe t rb a c b s):=⟨rfl,rfl⟩
variable {t rb:Nat} {a:Option Addr} {c:Nat} {b:List UInt8} {s:RS} {m m0:Mem} {S:List Nat} {L:List As}
theorem mV {x:Obj} {J:Mem→Prop} {l:Lk J} {l':Lk m} (H:Hq m0 m S (xe t rb a c b s::L)) (s':RS) (hx:x=.cells [Value.slice a b.length c,.int .i64 s'.pos,.int .i64 s'.wr].toArray t (0,0)) (hp:s'.pos≤b.length)
  (k:∀ M,Fr m M [rb]→Hq m0 M S (xe t rb a c b s'::L)→J M):wrO m rb x J l l':=by
 subst hx
 have h:=H.at 0 rfl
 have f:Fr m (m.set rb (.cells [Value.slice a b.length c,.int .i64 s'.pos,.int .i64 s'.wr].toArray t (0,0))) [rb]:=Fr.set (by simp)
 refine k _ f (repQ0 (A':=xe t rb a c b s') H ⟨Qd _ _,?_,h.2.2.1,?_,hp,h.2.2.2.2.2⟩ f (fun b hb=>.inl hb) (fun b hb=>.inl hb))
 ·exact RdB.stk h.2.1 fun x hx=>f x (h.2.2.2.1 x hx) (by simp;rintro rfl;exact h.2.2.1 hx)
 ·exact fun x hx=>f.some (h.2.2.2.1 x hx) (by simp;rintro rfl;exact h.2.2.1 hx)
abbrev lpp (rb:Nat):Value:=.pointer (some ⟨rb,0,none⟩)
theorem bc_0 (x:UInt8):(bc x)[0]?=some (bv x):=rfl
attribute [go_sem] bc_0
theorem Ti (u:Nat) (hu:u < 2 ^ 64) (m:Mem):MC Tryz.prog UY [.int .u64 (u:Int)] m fun v M=>v=.int .i64 (zag u)∧Fr m M []:=by
 refine OB (by simp [Tryz.f33]) ?_
 have h2:u % 2=0∨u % 2=1:=by omega
 have h3:((u / 2 ^ 1:Nat):Int)≤9223372036854775807:=by omega
 have h4:(0:Int)≤((u / 2 ^ 1:Nat):Int):=by omega
 rcases h2 with h2 | h2
 ·simp (disch:=omega) only [go_sem,undef,mf u 1 1 rfl (by omega),AY u hu,h2,Pa,Int.natCast_zero,Int.sub_self]
  exact ⟨by simp [zag,h2],Fr.refl _ _⟩
 ·simp (disch:=omega) only [go_sem,undef,mf u 1 1 rfl (by omega),AY u hu,h2,PY,Int.natCast_one,show (0:Int) - 1 = -1 from rfl]
  exact ⟨by simp [zag,h2],Fr.refl _ _⟩
theorem ZG (h:(xe t rb a c b s).p m) (from_:Nat) (hf:from_≤b.length) (e:Int):MC Tryz.prog nJ [lpp rb,.int .i64 (from_:Int),.int .i64 e] m fun v M=>(v=.tuple #[]∧(xe t rb a c b ⟨from_,e⟩).p M)∧Fr m M [rb]:=by
 refine gD (by simp [Tryz.f33]) ?_
 have H:=Hq.one h
 simp (disch:=omega) only [go_sem,undef,H.cs]
 refine mV H ⟨from_,s.wr⟩ rfl hf fun M f H=>?_
 simp (disch:=omega) only [go_sem,undef,H.cs]
 refine mV H ⟨from_,e⟩ rfl hf fun M f H=>?_
 simp (disch:=omega) only [go_sem,undef]
 exact ⟨⟨rfl,H.hs.1⟩,H.fr⟩
theorem qxp {b:List UInt8} {k:Nat} {x:UInt8} (h:b[k]?=some x):b.drop k=x::b.drop (k+1):=by
 obtain ⟨h1,rfl⟩:=List.getElem?_eq_some_iff.1 h
 exact List.drop_eq_getElem_cons h1
theorem qR (h:(xe t rb a c b s).p m):MC Tryz.prog pY [lpp rb] m fun v M=>(v=.int .i64 (s.num b).1∧(xe t rb a c b (s.num b).2).p M)∧Fr m M [rb]:=by
  refine mU (by simp [Tryz.f33]) ?_
  have H:=Hq.one h
  simp (disch:=omega) only [go_sem,undef,H.cs]
  refine ZI (fun h0=>?_) (fun h0=>?_)
  rotate_left
  · rw [RS.qQW h0]
    simp (disch:=omega) only [go_sem,undef]
    exact ⟨⟨rfl,H.hs.1⟩,H.fr⟩
  · have hnum:s.num b=qxx s (Bv (b.drop s.pos) 0 0):=by simp [RS.num,h0]
    rw [hnum]
    simp (disch:=omega) only [go_sem,undef,H.cs]
    have hp:=h.2.2.2.2.1
    have hB:=h.2.2.2.2.2
    refine ql (fun n E m'=>∃ i u,n=b.length - (s.pos+i)∧E=[(0,lpp rb),(3,.int .i64 (s.pos:Int)),(4,.int .u64 (u:Nat)),(5,.int .i64 (i:Nat))]∧i≤9∧s.pos+i≤b.length∧u < 2 ^ (7*i)∧Bv (b.drop s.pos) 0 0=Bv (b.drop (s.pos+i)) i u ∧
      Hq m m' [rb] [xe t rb a c b ⟨s.pos+i,0⟩]) (b.length - s.pos) rfl ⟨0,0,by omega,rfl,by omega,by omega,by decide,rfl,by rw [← h0];exact H⟩ ?_
    clear H h
    rintro n E m' ⟨i,u,rfl,rfl,hi,hpi,hu,hr,H⟩
    simp (disch:=omega) only [go_sem,undef,H.cs]
    refine ZI (fun h1=>?_) (fun h1=>?_)
    · simp (disch:=omega) only [go_sem,undef]
      refine fM (xe t rb a c b ⟨s.pos,3⟩) H (ZG (H.at 0 rfl) s.pos hp 3) rfl rfl fun M f H=>?_
      simp (disch:=omega) only [go_sem,undef]
      have:b.drop (s.pos+i)=[]:=List.drop_eq_nil_iff.2 (by omega)
      rw [hr,this]
      exact ⟨⟨rfl,H.hs.1⟩,H.fr⟩
    · have h2:s.pos+i < b.length:=by omega
      refine RdS.elK (H.at 0 rfl).2.1 h2 (by decide) fun b1 o1 x hx hix hE=>?_
      rw [qxp hx] at hr
      simp only [Bv] at hr
      have hxl:=x.toNat_lt
      have hpw:i=9→(2:Nat) ^ (7*i)=9223372036854775808:=by rintro rfl;decide
      have hpw8:i≤8→(2:Nat) ^ (7*i)≤72057594037927936:=fun h=>Nat.le_trans (Nat.pow_le_pow_right (by omega) (show 7*i≤56 by omega)) (by decide)
      have hps:(2:Nat) ^ (7*(i+1))=128*2 ^ (7*i):=by rw [show 7*(i+1)=7+7*i from by omega,Nat.pow_add]
      generalize hP:(2:Nat) ^ (7*i)=P at *
      have hmul:x.toNat % 128*P≤127*P:=Nat.mul_le_mul_right P (by omega)
      have hmul1:x.toNat≤1→x.toNat % 128*P≤1*P:=fun h=>Nat.mul_le_mul_right P (by omega)
      simp (disch:=omega) only [go_sem,undef,H.cs,hix,hE.ld0]
      repeat' (first
        | ((first
          | (with_reducible first
            | refine qh H fun _ _ f H2=>?_
            | refine zG H fun _ f H2=>?_
            | refine Jv H fun _ f H2=>?_
            | refine yZ H fun _ f H2=>?_
            | refine Xb H fun _ f H2=>?_
            | refine Xa H fun _ f H2=>?_
            | refine XY H fun _ f H2=>?_)
          | ((with_reducible refine qs H ?hl ?h1 fun _ f H2=>?_);(case hl=>rfl);(case h1=>rfl))
          | ((with_reducible refine zQ H ?hl ?h1 fun _ f H2=>?_);(case hl=>rfl);(case h1=>rfl))
          | ((with_reducible refine jU H ?hl ?h1 fun _ f H2=>?_);(case hl=>rfl);(case h1=>rfl))
          | ((with_reducible refine xm H ?hl ?h1 fun _ f H2=>?_);(case hl=>rfl);(case h1=>rfl))
          | ((with_reducible refine xi H ?hl ?h1 fun _ f H2=>?_);(case hl=>rfl);(case h1=>rfl))
          | ((with_reducible refine xh H ?hl ?h1 fun _ f H2=>?_);(case hl=>rfl);(case h1=>rfl))
          | ((with_reducible refine JQ H ?hl ?h1 fun _ f H2=>?_);(case hl=>exact Nat.le_of_ble_eq_true rfl);(case h1=>rfl);(simp only [go_sem] at H2))
          | ((with_reducible refine Jy H ?hl ?h1 fun _ f H2=>?_);(case hl=>exact Nat.le_of_ble_eq_true rfl);(case h1=>rfl);(simp only [go_sem] at H2))
          | ((with_reducible refine Xd H ?hl ?h1 fun _ f H2=>?_);(case hl=>exact Nat.le_of_ble_eq_true rfl);(case h1=>rfl);(simp only [go_sem] at H2))
          | ((with_reducible refine Xc H ?hl ?h1 fun _ f H2=>?_);(case hl=>exact Nat.le_of_ble_eq_true rfl);(case h1=>rfl);(simp only [go_sem] at H2)));clear f;clear H;have H:=H2;clear H2;simp (disch:=omega) only [go_sem,undef,H.cs, *])
        | ((with_reducible refine qp (fun hq=>?_) (fun hq=>?_))<;>(try simp only [Bool.not_true,Bool.not_false] at hq)<;>simp (disch:=omega) only [go_sem,undef,H.cs, *])
        | ((with_reducible refine qe (fun hq=>?_) (fun hq=>?_))<;>simp (disch:=omega) only [go_sem,undef,H.cs, *]))
      all_goals (simp only [decide_eq_true_eq,decide_eq_false_iff_not] at *)
      all_goals first
        | (exfalso;omega)
        | (refine fM (xe t rb a c b ⟨s.pos,4⟩) H (ZG (H.at 0 rfl) s.pos hp 4) rfl rfl fun M f H=>?_
           rw [hr,if_pos (by omega)]
           simp (disch:=omega) only [go_sem,undef]
           exact ⟨⟨rfl,H.hs.1⟩,H.fr⟩)
        | (have hbad:¬ ((0 < i∧x.toNat=0)∨(i=9∧1 < x.toNat)):=by omega
           rw [if_neg hbad] at hr
           refine mV H ⟨s.pos+i+1,0⟩ rfl (by simp only;omega) fun M f H=>?_
           by_cases h3:x.toNat < 128
           · rw [if_pos (by omega)] at hr
             simp (disch:=omega) only [go_sem,undef,H.cs,II x.toNat hxl,u64_in,AW (x.toNat % 128) .u64 (7*i) (7*i) (by omega) (by omega) (by rw [hP];omega),hP,IL (7*i) u (x.toNat % 128*P) (by omega) (by rw [hP];exact Nat.mul_mod_left _ _) (by omega)]
             refine qY H (Ti _ (by omega) M) fun M f H=>?_
             simp (disch:=omega) only [go_sem,undef]
             rw [hr]
             have e1:x.toNat % 128=x.toNat:=by omega
             refine ⟨⟨by simp only [qxx,e1],?_⟩,H.fr⟩
             simp only [qxx,h0]
             exact H.hs.1
           · rw [if_neg (by omega)] at hr
             first
               | (exfalso;omega)
               | (simp (disch:=omega) only [go_sem,undef,H.cs,II x.toNat hxl,u64_in,AW (x.toNat % 128) .u64 (7*i) (7*i) (by omega) (by omega) (by rw [hP];omega),hP,IL (7*i) u (x.toNat % 128*P) (by omega) (by rw [hP];exact Nat.mul_mod_left _ _) (by omega)]
                  exact qV (b.length - (s.pos+(i+1))) (by omega) ⟨i+1,u+x.toNat % 128*P,rfl,rfl,by omega,by omega,by omega,hr,H⟩))
end Go.Fw
namespace Go.Fw
open Go.Proofs
variable {t rb:Nat} {a:Option Addr} {c:Nat} {b:List UInt8} {s:RS} {m m0:Mem} {S:List Nat} {L:List As}
theorem pw (h:(xe t rb a c b s).p m):s.pos≤b.length:=h.2.2.2.2.1
theorem qzg (h:(xe t rb a c b s).p m):b.length≤1099511627776:=h.2.2.2.2.2
theorem zv (h:(xe t rb a c b s).p m):MC Tryz.prog ie [lpp rb] m fun v M=>v=.int .i64 s.wr∧Fr m M []:=by
 refine dN (by simp [Tryz.f33]) ?_
 simp (disch:=omega) only [go_sem,undef,h.1]
 exact ⟨rfl,Fr.refl _ _⟩
theorem VF (h:(xe t rb a c b s).p m):MC Tryz.prog pa [lpp rb] m fun v M=>(v=.int .i64 (s.fin b).wr∧(xe t rb a c b (s.fin b)).p M)∧Fr m M [rb]:=by
 refine ny (by simp [Tryz.f33]) ?_
 have H:=Hq.one h
 have hp:=pw h
 by_cases h1:s.wr=0∧s.pos < b.length
 ·rw [show s.fin b=⟨s.pos,5⟩ from if_pos h1]
  obtain ⟨h1,h2⟩:=h1
  simp (disch:=omega) only [go_sem,undef,H.cs,h1,qX]
  refine mV H ⟨s.pos,5⟩ rfl hp fun M f H=>?_
  simp (disch:=omega) only [go_sem,undef,H.cs]
  exact ⟨⟨rfl,H.hs.1⟩,H.fr⟩
 ·rw [show s.fin b=s from if_neg h1]
  simp (disch:=omega) only [go_sem,undef,H.cs]
  repeat' (first
   | ((first
    | (with_reducible first
     | refine qh H fun _ _ f H2=>?_
     | refine zG H fun _ f H2=>?_
     | refine Jv H fun _ f H2=>?_
     | refine yZ H fun _ f H2=>?_
     | refine Xb H fun _ f H2=>?_
     | refine Xa H fun _ f H2=>?_
     | refine XY H fun _ f H2=>?_)
    | ((with_reducible refine qs H ?hl ?h1 fun _ f H2=>?_);(case hl=>rfl);(case h1=>rfl))
    | ((with_reducible refine zQ H ?hl ?h1 fun _ f H2=>?_);(case hl=>rfl);(case h1=>rfl))
    | ((with_reducible refine jU H ?hl ?h1 fun _ f H2=>?_);(case hl=>rfl);(case h1=>rfl))
    | ((with_reducible refine xm H ?hl ?h1 fun _ f H2=>?_);(case hl=>rfl);(case h1=>rfl))
    | ((with_reducible refine xi H ?hl ?h1 fun _ f H2=>?_);(case hl=>rfl);(case h1=>rfl))
    | ((with_reducible refine xh H ?hl ?h1 fun _ f H2=>?_);(case hl=>rfl);(case h1=>rfl))
    | ((with_reducible refine JQ H ?hl ?h1 fun _ f H2=>?_);(case hl=>exact Nat.le_of_ble_eq_true rfl);(case h1=>rfl);(simp only [go_sem] at H2))
    | ((with_reducible refine Jy H ?hl ?h1 fun _ f H2=>?_);(case hl=>exact Nat.le_of_ble_eq_true rfl);(case h1=>rfl);(simp only [go_sem] at H2))
    | ((with_reducible refine Xd H ?hl ?h1 fun _ f H2=>?_);(case hl=>exact Nat.le_of_ble_eq_true rfl);(case h1=>rfl);(simp only [go_sem] at H2))
    | ((with_reducible refine Xc H ?hl ?h1 fun _ f H2=>?_);(case hl=>exact Nat.le_of_ble_eq_true rfl);(case h1=>rfl);(simp only [go_sem] at H2)));clear f;clear H;have H:=H2;clear H2;simp (disch:=omega) only [go_sem,undef,H.cs, *])
   | ((with_reducible refine qp (fun hq=>?_) (fun hq=>?_))<;>(try simp only [Bool.not_true,Bool.not_false] at hq)<;>simp (disch:=omega) only [go_sem,undef,H.cs, *])
   | ((with_reducible refine qe (fun hq=>?_) (fun hq=>?_))<;>simp (disch:=omega) only [go_sem,undef,H.cs, *]))
  all_goals (try simp only [decide_eq_true_eq,decide_eq_false_iff_not] at *)
  all_goals first
   | exact ⟨⟨rfl,H.hs.1⟩,H.fr⟩
   | (exfalso;omega)
theorem zW (h:(xe t rb a c b s).p m):MC Tryz.prog nV [lpp rb] m fun v M=>(v=.tuple #[]∧(xe t rb a c b s.bad).p M)∧Fr m M [rb]:=by
 refine ib (by simp [Tryz.f33]) ?_
 have H:=Hq.one h
 have hp:=pw h
 by_cases h1:s.wr=0
 ·rw [show s.bad=⟨s.pos,4⟩ from if_pos h1]
  simp (disch:=omega) only [go_sem,undef,H.cs,h1]
  refine mV H ⟨s.pos,4⟩ rfl hp fun M f H=>?_
  simp (disch:=omega) only [go_sem,undef,H.cs]
  exact ⟨⟨rfl,H.hs.1⟩,H.fr⟩
 ·rw [show s.bad=s from if_neg h1]
  simp (disch:=omega) only [go_sem,undef,H.cs,qZ]
  exact ⟨⟨rfl,H.hs.1⟩,H.fr⟩
theorem Mt (h:(xe t rb a c b s).p m) (k:Int):MC Tryz.prog ig [lpp rb,.int .i64 k] m fun v M=>(v=.int .i64 (s.count b k).1∧(xe t rb a c b (s.count b k).2).p M)∧Fr m M [rb]:=by
  refine eJ (by simp [Tryz.f33]) ?_
  have H:=Hq.one h
  have hp:=pw h
  simp (disch:=omega) only [go_sem,undef,H.cs]
  refine fM (xe t rb a c b (s.num b).2) H (qR h) rfl rfl fun M f H=>?_
  by_cases h1:(s.num b).2.wr=0∧((s.num b).1 < 0∨k < (s.num b).1)
  · rw [show s.count b k=(0,⟨s.pos,2⟩) from if_pos h1]
    simp (disch:=omega) only [go_sem,undef,H.cs,h1.1]
    repeat' (first
      | ((first
        | (with_reducible first
          | refine qh H fun _ _ f H2=>?_
          | refine zG H fun _ f H2=>?_
          | refine Jv H fun _ f H2=>?_
          | refine yZ H fun _ f H2=>?_
          | refine Xb H fun _ f H2=>?_
          | refine Xa H fun _ f H2=>?_
          | refine XY H fun _ f H2=>?_)
        | ((with_reducible refine qs H ?hl ?h1 fun _ f H2=>?_);(case hl=>rfl);(case h1=>rfl))
        | ((with_reducible refine zQ H ?hl ?h1 fun _ f H2=>?_);(case hl=>rfl);(case h1=>rfl))
        | ((with_reducible refine jU H ?hl ?h1 fun _ f H2=>?_);(case hl=>rfl);(case h1=>rfl))
        | ((with_reducible refine xm H ?hl ?h1 fun _ f H2=>?_);(case hl=>rfl);(case h1=>rfl))
        | ((with_reducible refine xi H ?hl ?h1 fun _ f H2=>?_);(case hl=>rfl);(case h1=>rfl))
        | ((with_reducible refine xh H ?hl ?h1 fun _ f H2=>?_);(case hl=>rfl);(case h1=>rfl))
        | ((with_reducible refine JQ H ?hl ?h1 fun _ f H2=>?_);(case hl=>exact Nat.le_of_ble_eq_true rfl);(case h1=>rfl);(simp only [go_sem] at H2))
        | ((with_reducible refine Jy H ?hl ?h1 fun _ f H2=>?_);(case hl=>exact Nat.le_of_ble_eq_true rfl);(case h1=>rfl);(simp only [go_sem] at H2))
        | ((with_reducible refine Xd H ?hl ?h1 fun _ f H2=>?_);(case hl=>exact Nat.le_of_ble_eq_true rfl);(case h1=>rfl);(simp only [go_sem] at H2))
        | ((with_reducible refine Xc H ?hl ?h1 fun _ f H2=>?_);(case hl=>exact Nat.le_of_ble_eq_true rfl);(case h1=>rfl);(simp only [go_sem] at H2)));clear f;clear H;have H:=H2;clear H2;simp (disch:=omega) only [go_sem,undef,H.cs, *])
      | ((with_reducible refine qp (fun hq=>?_) (fun hq=>?_))<;>(try simp only [Bool.not_true,Bool.not_false] at hq)<;>simp (disch:=omega) only [go_sem,undef,H.cs, *])
      | ((with_reducible refine qe (fun hq=>?_) (fun hq=>?_))<;>simp (disch:=omega) only [go_sem,undef,H.cs, *]))
    all_goals (try simp only [decide_eq_true_eq,decide_eq_false_iff_not] at *)
    all_goals first
      | (refine fM (xe t rb a c b ⟨s.pos,2⟩) H (ZG (H.at 0 rfl) s.pos hp 2) rfl rfl fun M f H=>?_
         simp (disch:=omega) only [go_sem,undef]
         exact ⟨⟨rfl,H.hs.1⟩,H.fr⟩)
      | (exfalso;omega)
  · rw [show s.count b k=s.num b from if_neg h1]
    simp (disch:=omega) only [go_sem,undef,H.cs]
    repeat' (first
      | ((first
        | (with_reducible first
          | refine qh H fun _ _ f H2=>?_
          | refine zG H fun _ f H2=>?_
          | refine Jv H fun _ f H2=>?_
          | refine yZ H fun _ f H2=>?_
          | refine Xb H fun _ f H2=>?_
          | refine Xa H fun _ f H2=>?_
          | refine XY H fun _ f H2=>?_)
        | ((with_reducible refine qs H ?hl ?h1 fun _ f H2=>?_);(case hl=>rfl);(case h1=>rfl))
        | ((with_reducible refine zQ H ?hl ?h1 fun _ f H2=>?_);(case hl=>rfl);(case h1=>rfl))
        | ((with_reducible refine jU H ?hl ?h1 fun _ f H2=>?_);(case hl=>rfl);(case h1=>rfl))
        | ((with_reducible refine xm H ?hl ?h1 fun _ f H2=>?_);(case hl=>rfl);(case h1=>rfl))
        | ((with_reducible refine xi H ?hl ?h1 fun _ f H2=>?_);(case hl=>rfl);(case h1=>rfl))
        | ((with_reducible refine xh H ?hl ?h1 fun _ f H2=>?_);(case hl=>rfl);(case h1=>rfl))
        | ((with_reducible refine JQ H ?hl ?h1 fun _ f H2=>?_);(case hl=>exact Nat.le_of_ble_eq_true rfl);(case h1=>rfl);(simp only [go_sem] at H2))
        | ((with_reducible refine Jy H ?hl ?h1 fun _ f H2=>?_);(case hl=>exact Nat.le_of_ble_eq_true rfl);(case h1=>rfl);(simp only [go_sem] at H2))
        | ((with_reducible refine Xd H ?hl ?h1 fun _ f H2=>?_);(case hl=>exact Nat.le_of_ble_eq_true rfl);(case h1=>rfl);(simp only [go_sem] at H2))
        | ((with_reducible refine Xc H ?hl ?h1 fun _ f H2=>?_);(case hl=>exact Nat.le_of_ble_eq_true rfl);(case h1=>rfl);(simp only [go_sem] at H2)));clear f;clear H;have H:=H2;clear H2;simp (disch:=omega) only [go_sem,undef,H.cs, *])
      | ((with_reducible refine qp (fun hq=>?_) (fun hq=>?_))<;>(try simp only [Bool.not_true,Bool.not_false] at hq)<;>simp (disch:=omega) only [go_sem,undef,H.cs, *])
      | ((with_reducible refine qe (fun hq=>?_) (fun hq=>?_))<;>simp (disch:=omega) only [go_sem,undef,H.cs, *]))
    all_goals (try simp only [decide_eq_true_eq,decide_eq_false_iff_not] at *)
    all_goals first
      | exact ⟨⟨rfl,H.hs.1⟩,H.fr⟩
      | (exfalso;omega)
theorem JJ (h:(xe t rb a c b s).p m) (k:Int) (k0:0≤k∧k < 1000000):MC Tryz.prog nX [lpp rb,.int .i64 k] m fun v M=>(v=.string (s.text b k).1∧(xe t rb a c b (s.text b k).2).p M)∧Fr m M [rb]:=by
 refine gS (by simp [Tryz.f33]) ?_
 have H:=Hq.one h
 have hp:=pw h
 have hB:=qzg h
 simp (disch:=omega) only [go_sem,undef,H.cs]
 refine fM (xe t rb a c b (s.count b k).2) H (Mt h k) rfl rfl fun M f H=>?_
 have hcp:=s.qxu b k hp
 by_cases h1:(s.count b k).2.wr=0
 ·obtain ⟨hr1,hr2⟩:=s.count_range b k k0.1 h1
  unfold RS.text
  rw [if_neg (by simpa using h1)]
  generalize hc:s.count b k=q at *
  obtain ⟨n,s2⟩:=q
  simp only at *
  by_cases h2:((b.length - s2.pos:Nat):Int) < n
  ·rw [if_pos h2]
   simp (disch:=omega) only [go_sem,undef,H.cs,h1,qX]
   refine fM (xe t rb a c b ⟨s.pos,3⟩) H (ZG (H.at 0 rfl) s.pos hp 3) rfl rfl fun M f H=>?_
   simp (disch:=omega) only [go_sem,undef]
   exact ⟨⟨rfl,H.hs.1⟩,H.fr⟩
  ·rw [if_neg h2]
   obtain ⟨N,rfl⟩:=Int.eq_ofNat_of_zero_le hr1
   simp only [Int.toNat_natCast]
   have hB2:=(H.at 0 rfl).2.1
   obtain ⟨a',c',hcut,hrd,_⟩:=hB2.cut (by decide) s2.pos (s2.pos+N) (by omega) (by omega)
   have hlen:s2.pos+N - s2.pos=N:=by omega
   have hl:((b.drop s2.pos).take N).length=N:=by simp;omega
   have h3:List.drop s2.pos (List.take (s2.pos+N) b)=(b.drop s2.pos).take N:=by rw [List.drop_take,hlen]
   rw [hlen,h3] at hrd
   rw [hlen] at hcut
   have hcut':xy 1 a c (s2.pos:Int) ((s2.pos:Int)+(N:Int))=some (.slice a' N c'):=by rw [← hcut];rfl
   have hb2:rd .b2s [.slice a' N c'] M=some (.string ⟨((b.drop s2.pos).take N).toArray⟩):=by
    have:=qXb (a:=a') (c:=c') (l:=(b.drop s2.pos).take N) (m:=M) (by rw [hl];exact hrd)
    rw [hl] at this;exact this
   simp (disch:=omega) only [go_sem,undef,H.cs,h1,qZ,hcut',hb2,PK]
   refine mV H ⟨s2.pos+N,0⟩ rfl (by simp only;omega) fun M f H=>?_
   simp (disch:=omega) only [go_sem,undef]
   exact ⟨⟨rfl,H.hs.1⟩,H.fr⟩
 ·rw [show s.text b k=(noB,(s.count b k).2) from if_pos h1]
  simp (disch:=omega) only [go_sem,undef,H.cs,qZ]
  exact ⟨⟨rfl,H.hs.1⟩,H.fr⟩
theorem JX (h:(xe t rb a c b s).p m):MC Tryz.prog nK [lpp rb] m fun v M=>(v=.bool (s.flag b).1∧(xe t rb a c b (s.flag b).2).p M)∧Fr m M [rb]:=by
 refine iW (by simp [Tryz.f33]) ?_
 have H:=Hq.one h
 have hp:=pw h
 have hB:=qzg h
 by_cases h1:s.wr=0
 ·unfold RS.flag
  rw [if_neg (by simpa using h1)]
  by_cases h2:s.pos=b.length
  ·rw [List.getElem?_eq_none (by omega)]
   simp (disch:=omega) only [go_sem,undef,H.cs,h1,qX]
   refine fM (xe t rb a c b ⟨s.pos,3⟩) H (ZG (H.at 0 rfl) s.pos hp 3) rfl rfl fun M f H=>?_
   simp (disch:=omega) only [go_sem,undef]
   exact ⟨⟨rfl,H.hs.1⟩,H.fr⟩
  ·refine RdS.elK h.2.1 (show s.pos < b.length by omega) (by decide) fun b1 o1 x hx hix hE=>?_
   rw [hx]
   simp only
   have hxl:=x.toNat_lt
   by_cases h3:1 < x.toNat
   ·rw [if_pos h3]
    simp (disch:=omega) only [go_sem,undef,H.cs,h1,qZ,hix,hE.ld0,qX]
    refine fM (xe t rb a c b ⟨s.pos,4⟩) H (ZG (H.at 0 rfl) s.pos hp 4) rfl rfl fun M f H=>?_
    simp (disch:=omega) only [go_sem,undef]
    exact ⟨⟨rfl,H.hs.1⟩,H.fr⟩
   ·rw [if_neg h3]
    simp (disch:=omega) only [go_sem,undef,H.cs,h1,qZ,hix,hE.ld0]
    refine mV H ⟨s.pos+1,0⟩ (by simp [h1]) (by simp only;omega) fun M f H=>?_
    simp (disch:=omega) only [go_sem,undef]
    refine ⟨⟨?_,H.hs.1⟩,H.fr⟩
    congr 1
    rw [decide_eq_decide];omega
 ·rw [RS.qwz h1]
  simp (disch:=omega) only [go_sem,undef,H.cs,qZ]
  exact ⟨⟨rfl,H.hs.1⟩,H.fr⟩
end Go.Fw
namespace Go.Fw
open Go.Proofs
variable {m:Mem}
theorem Th (n:Int) (h : -9223372036854775808≤n∧n≤9223372036854775807):MC Tryz.prog UW [.int .i64 n] m fun v M=>v=.int .u64 ((zig n:Nat):Int)∧Fr m M []:=by
 refine Ot (by simp [Tryz.f33]) ?_
 have e1:∀ M,rd (.ish .shr) [.int .i64 n,.int .u64 63] M=some (.int .i64 (if n < 0 then -1 else 0)):=fun M=>by
  show (if (63:Int) < 0 then none else some (Value.int .i64 (n.fdiv (2 ^ min (63:Int).toNat 64))))=_
  rw [if_neg (by omega)]
  congr 2
  rw [Int.fdiv_eq_ediv_of_nonneg _ (by decide)]
  show n / 9223372036854775808=_
  split<;>omega
 have e2:∀ M,rd (.ish .shl) [.int .u64 (IntKind.u64.wrap n),.int .u64 1] M=some (.int .u64 ((2*n % 18446744073709551616).toNat:Nat)):=fun M=>by
  show (if (1:Int) < 0 then none else some (Value.int .u64 (IntKind.u64.wrap (IntKind.u64.wrap n*2 ^ min (1:Int).toNat 64))))=_
  rw [if_neg (by omega)]
  congr 2
  show IntKind.u64.wrap (IntKind.u64.wrap n*2)=_
  simp [IntKind.wrap,IntKind.bits,IntKind.signed];omega
 by_cases h0:n < 0
 ·simp (disch:=omega) only [go_sem,undef,e1,e2,if_pos h0,show IntKind.u64.wrap (-1)=18446744073709551615 from by decide,PJ (2*n % 18446744073709551616).toNat (by omega)]
  refine ⟨?_,Fr.refl _ _⟩
  congr 1
  simp only [zig,if_pos h0];omega
 ·simp (disch:=omega) only [go_sem,undef,e1,e2,if_neg h0,show IntKind.u64.wrap 0=0 from by decide,PX (2*n % 18446744073709551616).toNat (by omega)]
  refine ⟨?_,Fr.refl _ _⟩
  congr 1
  simp only [zig,if_neg h0];omega
theorem JZ {v:Value} {l:List UInt8} (hv:RdB m v l) (hl:l.length≤1099511627776) (k:Nat) (hk:k≤1099511627776):CN Tryz.prog MH [v,.int .i64 (k:Int)] m fun u A=>A=byA jm u l:=by
 obtain ⟨a,c,rfl⟩:=hv.form
 refine HQ (by simp [Tryz.f33]) ?_
 have H:=Hq.refl m []
 simp (disch:=omega) only [go_sem,undef]
 refine qh H fun b M f H=>?_
 have H:=H.OI 1 0 (l.length+k) (by simp;omega) (by omega)
 simp only [Nat.zero_mul,List.take_zero] at H
 have e1:((l.length:Int)+(k:Int)).toNat=l.length+k:=by omega
 simp (disch:=omega) only [go_sem,undef,e1]
 have hv2:=hv.frame f
 refine Lu H (k:=l.length) rfl (al hv2) (by rw [qjv];omega) (qZm l) rfl (by omega) (by omega) fun u M f H=>?_
 simp (disch:=omega) only [go_sem,undef]
 refine ⟨byA jm u l,rfl,?_,H.fr,fun b hb=>(H.done.2.2 b hb).resolve_left (by simp)⟩
 have:=H.hs.1
 simpa using this
theorem qvf (f u:Nat):(EK f u).length≤f:=by
 induction f generalizing u with
 | zero=>simp [EK]
 | succ f ih=>simp only [EK];split<;>simp;exact ih _
theorem qo (n:Int):(cQ n).length≤10:=qvf _ _
theorem Ev {v:Value} {l:List UInt8} (hv:(byA jm v l).p m) (hl:l.length≤1099511627776) (n:Int) (hn : -9223372036854775808≤n∧n≤9223372036854775807):CM Tryz.prog Ua [v,.int .i64 n] m (byA jm v l) fun u A=>A=byA jm u (l++cQ n):=by
 refine Pn (by simp [Tryz.f33]) ?_
 have H:=Hq.one hv
 simp (disch:=omega) only [go_sem,undef]
 refine qY H (Th n hn) fun M f H=>?_
 simp (disch:=omega) only [go_sem,undef]
 refine ql (fun k E m'=>∃ i q done w,k=10 - i∧E=[(0,w),(5,.int .u64 (q:Nat))]∧i≤9∧q < 2 ^ (64 - 7*i)∧done.length=i∧cQ n=done++EK (10 - i) q∧Hq m m' (qH v) [byA jm w (l++done)]) 10 rfl ⟨0,zig n,[],v,rfl,rfl,by omega,by simpa using qxT n hn,rfl,rfl,by simpa using H⟩ ?_
 clear H f hv
 rintro k E m' ⟨i,q,done,w,rfl,rfl,hi,hq,hd,he,H⟩
 have hp:(2:Nat) ^ (64 - 7*i)=if i=9 then 2 else 2 ^ (64 - 7*(i+1))*128:=by
  split
  ·rename_i e;subst e;decide
  ·rw [show 64 - 7*i=(64 - 7*(i+1))+7 from by omega,Nat.pow_add]
 have hq64:q < 18446744073709551616:=Nat.lt_of_lt_of_le hq (Nat.le_trans (Nat.pow_le_pow_right (by omega) (show 64 - 7*i≤64 by omega)) (by decide))
 simp (disch:=omega) only [go_sem,undef,u64_in]
 by_cases h1:128≤q
 ·have hi9:i≠9:=by
   rintro rfl
   simp at hp;omega
  rw [if_neg hi9] at hp
  simp (disch:=omega) only [go_sem,undef,qX,qzw,qkU (q % 256) (by omega)]
  refine qh H fun b1 M f H=>?_
  simp (disch:=omega) only [go_sem,undef]
  refine qjZ H (k:=1) rfl (zY (l:=[_]) H.cs.1 (by simp)) rfl (by simp [Value.oneCell']) rfl (by simp;omega) (by simp;omega) fun w2 M f H=>?_
  have H:=H.tail
  rw [show [Value.int IntKind.u8 ((q % 256 % 128+128:Nat):Int)].take (1*1)=bys [UInt8.ofNat (q % 128+128)] from by
   show [Value.int IntKind.u8 _]=[bv _]
   rw [← qJv _ (by omega),show q % 256 % 128=q % 128 from by omega]] at H
  have H:Hq m M (qH v) [byA jm w2 (l++(done++[UInt8.ofNat (q % 128+128)]))]:=by
   rw [← List.append_assoc,← tj];exact H
  simp (disch:=omega) only [go_sem,undef,mf q 7 7 rfl (by omega)]
  have e10:10 - i=(10 - (i+1))+1:=by omega
  rw [e10,EK,if_neg (by omega)] at he
  exact qV (10 - (i+1)) (by omega) ⟨i+1,q / 2 ^ 7,_,w2,rfl,rfl,by omega,by rw [hp] at hq;exact Nat.div_lt_of_lt_mul (by omega),by simp [hd],by rw [he];simp,H⟩
 ·simp (disch:=omega) only [go_sem,undef,qZ,qzw]
  refine qh H fun b1 M f H=>?_
  simp (disch:=omega) only [go_sem,undef]
  refine qjZ H (k:=1) rfl (zY (l:=[_]) H.cs.1 (by simp)) rfl (by simp [Value.oneCell']) rfl (by simp;omega) (by simp;omega) fun w2 M f H=>?_
  have H:=H.tail
  rw [show [Value.int IntKind.u8 ((q % 256:Nat):Int)].take (1*1)=bys [UInt8.ofNat q] from by
   show [Value.int IntKind.u8 _]=[bv _]
   rw [show q % 256=q from by omega,← qJv _ (by omega)]] at H
  have e10:10 - i=(10 - (i+1))+1:=by omega
  rw [e10,EK,if_pos (by omega)] at he
  have H:Hq m M (qH v) [byA jm w2 (l++cQ n)]:=by
   rw [he,← List.append_assoc,← tj];exact H
  simp (disch:=omega) only [go_sem,undef]
  exact ⟨_,rfl,H.hs.1,H.fr,fun b hb=>H.done.2.2 b hb,fun b hb=>H.done.2.2 b hb⟩
theorem zo {v:Value} {l:List UInt8} (hv:RdB m v l) (hl:l.length≤549755813888) (n:Int) (hn : -9223372036854775808≤n∧n≤9223372036854775807):CN Tryz.prog Ub [v,.int .i64 n] m fun u A=>A=byA jm u (l++cQ n):=by
 refine Ps (by simp [Tryz.f33]) ?_
 have H:=Hq.refl m []
 simp (disch:=omega) only [go_sem,undef]
 refine xd H (JZ hv (by omega) 10 (by omega)) fun u M A' eA f H=>?_
 subst eA
 simp (disch:=omega) only [go_sem,undef]
 refine jb H (Ev (H.at 0 rfl) (by omega) n hn) fun u M A' eA f H=>?_
 subst eA
 simp (disch:=omega) only [go_sem,undef]
 exact ⟨_,rfl,H.hs.1,H.fr,fun b hb=>(H.done.2.2 b hb).resolve_left (by simp)⟩
theorem dI {v:Value} {l:List UInt8} (hv:RdB m v l) (hl:l.length≤549755813888) (s:ByteArray) (hs:s.size≤549755813888):CN Tryz.prog PD [v,.string s] m fun u A=>A=byA jm u (l++cC s):=by
 refine Mh (by simp [Tryz.f33]) ?_
 have H:=Hq.refl m []
 have hn:=qo s.size
 simp (disch:=omega) only [go_sem,undef]
 refine xd H (JZ hv (by omega) (10+s.size) (by omega)) fun u M A' eA f H=>?_
 subst eA
 simp (disch:=omega) only [go_sem,undef]
 refine jb H (Ev (H.at 0 rfl) (by omega) s.size (by omega)) fun u M A' eA f H=>?_
 subst eA
 simp (disch:=omega) only [go_sem,undef]
 refine apsQ0 H (by rw [List.length_append];omega) fun u M f H=>?_
 rw [qya,show s.size=s.data.toList.length from rfl,tj] at H
 simp (disch:=omega) only [go_sem,undef]
 exact ⟨byA jm u (l++cC s),rfl,by rw [cC,← List.append_assoc];exact H.hs.1,H.fr,fun b hb=>(H.done.2.2 b hb).resolve_left (by simp)⟩
theorem eX {v:Value} {l:List UInt8} (hv:RdB m v l) (hl:l.length≤549755813888) (x:Bool):CN Tryz.prog PF [v,.bool x] m fun u A=>A=byA jm u (l++Le x):=by
 refine Ms (by simp [Tryz.f33]) ?_
 have H:=Hq.refl m []
 cases x
 ·simp (disch:=omega) only [go_sem,undef]
  refine xd H (JZ hv (by omega) 1 (by omega)) fun u M A' eA f H=>?_
  subst eA
  simp (disch:=omega) only [go_sem,undef]
  refine qh H fun b1 M f H=>?_
  simp (disch:=omega) only [go_sem,undef]
  refine qjZ H (k:=1) rfl (zY (l:=[_]) H.cs.1 (by simp)) rfl (by simp [Value.oneCell']) rfl (by omega) (by omega) fun w2 M f H=>?_
  have H:=H.tail
  rw [show [Value.int IntKind.u8 0].take (1*1)=bys [0] from rfl,show l.length+1=l.length+[(0:UInt8)].length from rfl,tj] at H
  simp (disch:=omega) only [go_sem,undef]
  exact ⟨_,rfl,H.hs.1,H.fr,fun b hb=>(H.done.2.2 b hb).resolve_left (by simp)⟩
 ·simp (disch:=omega) only [go_sem,undef]
  refine xd H (JZ hv (by omega) 1 (by omega)) fun u M A' eA f H=>?_
  subst eA
  simp (disch:=omega) only [go_sem,undef]
  refine qh H fun b1 M f H=>?_
  simp (disch:=omega) only [go_sem,undef]
  refine qjZ H (k:=1) rfl (zY (l:=[_]) H.cs.1 (by simp)) rfl (by simp [Value.oneCell']) rfl (by omega) (by omega) fun w2 M f H=>?_
  have H:=H.tail
  rw [show [Value.int IntKind.u8 1].take (1*1)=bys [1] from rfl,show l.length+1=l.length+[(1:UInt8)].length from rfl,tj] at H
  simp (disch:=omega) only [go_sem,undef]
  exact ⟨_,rfl,H.hs.1,H.fr,fun b hb=>(H.done.2.2 b hb).resolve_left (by simp)⟩
theorem Po {v:Value} {l:List UInt8} (hv:RdB m v l) (hl:l.length≤1099511627776):CN Tryz.prog PE [v] m fun u A=>∃ rb a c,u=lpp rb∧A=xe Is rb a c l ⟨0,0⟩:=by
 refine Mm (by simp [Tryz.f33]) ?_
 have H:=Hq.refl m []
 simp (disch:=omega) only [go_sem,undef]
 refine xd H (JZ hv (by omega) 0 (by omega)) fun u M A' eA f H=>?_
 subst eA
 refine Own.zA (H.at 0 rfl) fun a c e=>?_
 subst e
 simp (disch:=omega) only [go_sem,undef]
 refine qh H fun rb M f H=>?_
 simp (disch:=omega) only [go_sem,undef]
 have hd:=H.dj
 have h0:∀ b∈rb::bk (.slice a l.length c) l,m b=none:=fun b hb=>by
  rcases List.mem_cons.1 hb with rfl | hb
  ·exact (H.done.2.2 b (by simp)).resolve_left (by simp)
  ·exact ((H.tail).done.2.2 b (qqI b hb)).resolve_left (by simp)
 refine ⟨_,⟨rb,a,c,rfl,rfl⟩,?_,H.fr,h0⟩
 exact ⟨H.cs.1,zt (H.at 1 rfl),by have:=(List.pairwise_cons.1 hd).1 _ (List.mem_cons_self ..);exact fun h=>this.1 rb (by simp) (qqI _ h),fun x hx=>(H.at 1 rfl).there x (qqI _ hx),by simp,hl⟩
end Go.Fw
namespace Go.Fw
open Go
def qZh (c:Cmd):List UInt8:=if c.kind=2 then cC c.val else if c.kind=4 then cC c.old++cC c.val else if c.kind=5 then cC c.fin else []
def qqt (c:Cmd):List UInt8:=cQ c.kind++if c.kind=0 then [] else cQ c.client++(cQ c.seq++(cC c.key++qZh c))
def Wc (d:Dp):Nat→List UInt8
 | 0=>[]
 | k+1=>Wc d k++cQ (d.g k)
def TK (a:Att):List UInt8:=cQ a.seq++Wc a.deps 7
def bF (p:Int×Int):List UInt8:=cQ p.1++cQ p.2
def qqB (c:Cel):List UInt8:=cQ c.st++(bF c.pr++if c.st=0 then [] else bF c.vo++(qqt c.cmd++(TK c.att++Le c.same)))
def Xe (i:Int×Int) (c:Cel):List UInt8:=bF i++qqB c
def RS.two (b:List UInt8) (s:RS):(Int×Int)×RS:=(((s.num b).1,((s.num b).2.num b).1),((s.num b).2.num b).2)
def NY (b:List UInt8) (c:Cmd) (s:RS):Cmd×RS :=
 if c.kind=2 then ({ c with val:=(s.text b 64).1 },(s.text b 64).2) else
 if c.kind=4 then ({ c with old:=(s.text b 64).1,val:=((s.text b 64).2.text b 64).1 },((s.text b 64).2.text b 64).2) else
 if c.kind=5 then ({ c with fin:=(s.text b 16).1 },(s.text b 16).2) else (c,s)
def Vc (b:List UInt8) (s:RS):Cmd×RS :=
 if (s.num b).1=0 then ({ Cmd.zero with kind:=(s.num b).1 },(s.num b).2) else
 NY b ⟨(s.num b).1,((s.num b).2.two b).1.1,((s.num b).2.two b).1.2,(((s.num b).2.two b).2.text b 16).1,noB,noB,noB⟩ (((s.num b).2.two b).2.text b 16).2
def RS.chk (s:RS) (ok:Bool):RS:=if s.wr=0∧ok=false then s.bad else s
def gx (b:List UInt8) (s:RS):Cmd×RS:=((Vc b s).1,(Vc b s).2.chk (decide (Vc b s).1.right))
def Zc (b:List UInt8) (s:RS):Cmd×RS:=(if (gx b s).2.wr≠0 then Cmd.zero else (gx b s).1,(gx b s).2)
def aS (b:List UInt8) (s:RS):Nat→Dp×RS
 | 0=>(Dp.zero,s)
 | k+1=>(Dp.up (aS b s k).1 k ((aS b s k).2.num b).1,((aS b s k).2.num b).2)
def Vd (b:List UInt8) (s:RS):Att×RS:=(⟨(s.num b).1,(aS b (s.num b).2 7).1⟩,(aS b (s.num b).2 7).2)
def Att.ok (a:Att):Bool:=decide (xW a)
def gk (b:List UInt8) (s:RS):Att×RS:=((Vd b s).1,(Vd b s).2.chk (Vd b s).1.ok)
def Xm (b:List UInt8) (s:RS):Att×RS:=(if (gk b s).2.wr≠0 then Att.zero else (gk b s).1,(gk b s).2)
def FO (c:Cel) (s:RS):Cel×RS:=(if (s.chk (decide c.right)).wr≠0 then Cel.zero else c,s.chk (decide c.right))
def Il (b:List UInt8) (s:RS):Cel×RS:=({ Cel.zero with st:=(s.num b).1,pr:=((s.num b).2.two b).1 },((s.num b).2.two b).2)
def qwo (b:List UInt8) (c:Cel) (s:RS):Cel×RS :=
 ({ c with vo:=(s.two b).1,cmd:=(Zc b (s.two b).2).1,att:=(Xm b (Zc b (s.two b).2).2).1,same:=((Xm b (Zc b (s.two b).2).2).2.flag b).1 },((Xm b (Zc b (s.two b).2).2).2.flag b).2)
def ch (b:List UInt8) (s:RS):Cel×RS :=
 if (Il b s).1.st≠0 then FO (qwo b (Il b s).1 (Il b s).2).1 (qwo b (Il b s).1 (Il b s).2).2 else FO (Il b s).1 (Il b s).2
def oy (b:List UInt8) (i:Int×Int) (c:Cel) (s:RS):(Int×Int)×Cel×Int :=
 if (s.fin b).wr≠0 then ((0,0),Cel.zero,(s.fin b).wr) else if qN i then (i,c,0) else ((0,0),Cel.zero,4)
def jG (b:List UInt8):(Int×Int)×Cel×Int:=oy b ((RS.mk 0 0).two b).1 (ch b ((RS.mk 0 0).two b).2).1 (ch b ((RS.mk 0 0).two b).2).2
end Go.Fw
namespace Go.Fw
open Go.Proofs
variable {t rb:Nat} {a:Option Addr} {c:Nat} {b:List UInt8} {s:RS} {m m0:Mem} {S:List Nat} {L:List As}
theorem bD (h:(xe t rb a c b s).p m):MC Tryz.prog qxJ [lpp rb] m fun v M=>(v=(Zc b s).1.v∧(xe t rb a c b (Zc b s).2).p M)∧Fr m M [rb]:=by
 refine qqs (by simp [Tryz.f33]) ?_
 have H:=Hq.one h
 simp (disch:=omega) only [go_sem,undef]
 repeat' (first
  | ((first
   | (with_reducible first
    | refine qh H fun _ _ f H2=>?_
    | refine zG H fun _ f H2=>?_
    | refine Jv H fun _ f H2=>?_
    | refine yZ H fun _ f H2=>?_
    | refine Xb H fun _ f H2=>?_
    | refine Xa H fun _ f H2=>?_
    | refine XY H fun _ f H2=>?_
    | refine tS0 H (fun h=>qR h) fun _ f H2=>?_
    | refine tS1 H (fun h=>qR h) fun _ f H2=>?_
    | refine tS2 H (fun h=>qR h) fun _ f H2=>?_
    | refine tS3 H (fun h=>qR h) fun _ f H2=>?_
    | refine tS4 H (fun h=>qR h) fun _ f H2=>?_
    | refine tS0 H (fun h=>JJ h _ (by omega)) fun _ f H2=>?_
    | refine tS1 H (fun h=>JJ h _ (by omega)) fun _ f H2=>?_
    | refine tS2 H (fun h=>JJ h _ (by omega)) fun _ f H2=>?_
    | refine tS3 H (fun h=>JJ h _ (by omega)) fun _ f H2=>?_
    | refine tS4 H (fun h=>JJ h _ (by omega)) fun _ f H2=>?_
    | refine tQ0 H (fun h=>zv h) fun _ f H2=>?_
    | refine tQ1 H (fun h=>zv h) fun _ f H2=>?_
    | refine tQ2 H (fun h=>zv h) fun _ f H2=>?_
    | refine tQ3 H (fun h=>zv h) fun _ f H2=>?_
    | refine tQ4 H (fun h=>zv h) fun _ f H2=>?_
    | refine tS0 H (fun h=>zW h) fun _ f H2=>?_
    | refine tS1 H (fun h=>zW h) fun _ f H2=>?_
    | refine tS2 H (fun h=>zW h) fun _ f H2=>?_
    | refine tS3 H (fun h=>zW h) fun _ f H2=>?_
    | refine tS4 H (fun h=>zW h) fun _ f H2=>?_
    | refine qY H (ju _ _) fun _ f H2=>?_)
   | ((with_reducible refine qs H ?hl ?h1 fun _ f H2=>?_);(case hl=>rfl);(case h1=>rfl))
   | ((with_reducible refine zQ H ?hl ?h1 fun _ f H2=>?_);(case hl=>rfl);(case h1=>rfl))
   | ((with_reducible refine jU H ?hl ?h1 fun _ f H2=>?_);(case hl=>rfl);(case h1=>rfl))
   | ((with_reducible refine xm H ?hl ?h1 fun _ f H2=>?_);(case hl=>rfl);(case h1=>rfl))
   | ((with_reducible refine xi H ?hl ?h1 fun _ f H2=>?_);(case hl=>rfl);(case h1=>rfl))
   | ((with_reducible refine xh H ?hl ?h1 fun _ f H2=>?_);(case hl=>rfl);(case h1=>rfl))
   | ((with_reducible refine JQ H ?hl ?h1 fun _ f H2=>?_);(case hl=>exact Nat.le_of_ble_eq_true rfl);(case h1=>rfl);(simp only [go_sem] at H2))
   | ((with_reducible refine Jy H ?hl ?h1 fun _ f H2=>?_);(case hl=>exact Nat.le_of_ble_eq_true rfl);(case h1=>rfl);(simp only [go_sem] at H2))
   | ((with_reducible refine Xd H ?hl ?h1 fun _ f H2=>?_);(case hl=>exact Nat.le_of_ble_eq_true rfl);(case h1=>rfl);(simp only [go_sem] at H2))
   | ((with_reducible refine Xc H ?hl ?h1 fun _ f H2=>?_);(case hl=>exact Nat.le_of_ble_eq_true rfl);(case h1=>rfl);(simp only [go_sem] at H2)));clear f;clear H;have H:=H2;clear H2;simp (disch:=omega) only [go_sem,undef,H.cs, *])
  | ((with_reducible refine qp (fun hq=>?_) (fun hq=>?_))<;>(try simp only [Bool.not_true,Bool.not_false] at hq)<;>simp (disch:=omega) only [go_sem,undef,H.cs, *])
  | ((with_reducible refine qe (fun hq=>?_) (fun hq=>?_))<;>simp (disch:=omega) only [go_sem,undef,H.cs, *]))
 all_goals (have hA:=H.at 2 rfl;have F:=H.fr;clear H h;refine xY ⟨?_,F⟩;clear F)
 all_goals (try simp only [decide_eq_true_eq,decide_eq_false_iff_not] at *)
 all_goals first
  | (exfalso;omega)
  | (exfalso;simp_all;done)
  | (simp_all [Zc,gx,Vc,NY,RS.two,RS.chk,RS.bad];done)
theorem Kz (h:(xe t rb a c b s).p m):MC Tryz.prog nW [lpp rb] m fun v M=>(v=pv (s.two b).1∧(xe t rb a c b (s.two b).2).p M)∧Fr m M [rb]:=by
 refine iD (by simp [Tryz.f33]) ?_
 have H:=Hq.one h
 simp (disch:=omega) only [go_sem,undef]
 repeat' (first
  | ((first
   | (with_reducible first
    | refine qh H fun _ _ f H2=>?_
    | refine zG H fun _ f H2=>?_
    | refine Jv H fun _ f H2=>?_
    | refine yZ H fun _ f H2=>?_
    | refine Xb H fun _ f H2=>?_
    | refine Xa H fun _ f H2=>?_
    | refine XY H fun _ f H2=>?_
    | refine tS0 H (fun h=>qR h) fun _ f H2=>?_
    | refine tS1 H (fun h=>qR h) fun _ f H2=>?_
    | refine tS2 H (fun h=>qR h) fun _ f H2=>?_
    | refine tS3 H (fun h=>qR h) fun _ f H2=>?_
    | refine tS4 H (fun h=>qR h) fun _ f H2=>?_)
   | ((with_reducible refine qs H ?hl ?h1 fun _ f H2=>?_);(case hl=>rfl);(case h1=>rfl))
   | ((with_reducible refine zQ H ?hl ?h1 fun _ f H2=>?_);(case hl=>rfl);(case h1=>rfl))
   | ((with_reducible refine jU H ?hl ?h1 fun _ f H2=>?_);(case hl=>rfl);(case h1=>rfl))
   | ((with_reducible refine xm H ?hl ?h1 fun _ f H2=>?_);(case hl=>rfl);(case h1=>rfl))
   | ((with_reducible refine xi H ?hl ?h1 fun _ f H2=>?_);(case hl=>rfl);(case h1=>rfl))
   | ((with_reducible refine xh H ?hl ?h1 fun _ f H2=>?_);(case hl=>rfl);(case h1=>rfl))
   | ((with_reducible refine JQ H ?hl ?h1 fun _ f H2=>?_);(case hl=>exact Nat.le_of_ble_eq_true rfl);(case h1=>rfl);(simp only [go_sem] at H2))
   | ((with_reducible refine Jy H ?hl ?h1 fun _ f H2=>?_);(case hl=>exact Nat.le_of_ble_eq_true rfl);(case h1=>rfl);(simp only [go_sem] at H2))
   | ((with_reducible refine Xd H ?hl ?h1 fun _ f H2=>?_);(case hl=>exact Nat.le_of_ble_eq_true rfl);(case h1=>rfl);(simp only [go_sem] at H2))
   | ((with_reducible refine Xc H ?hl ?h1 fun _ f H2=>?_);(case hl=>exact Nat.le_of_ble_eq_true rfl);(case h1=>rfl);(simp only [go_sem] at H2)));clear f;clear H;have H:=H2;clear H2;simp (disch:=omega) only [go_sem,undef,H.cs, *])
  | ((with_reducible refine qp (fun hq=>?_) (fun hq=>?_))<;>(try simp only [Bool.not_true,Bool.not_false] at hq)<;>simp (disch:=omega) only [go_sem,undef,H.cs, *])
  | ((with_reducible refine qe (fun hq=>?_) (fun hq=>?_))<;>simp (disch:=omega) only [go_sem,undef,H.cs, *]))
 exact ⟨⟨rfl,H.at 1 rfl⟩,H.fr⟩
theorem Nh (a:Att) (m:Mem):MC Tryz.prog pg [a.v] m fun v m'=>v=.bool a.ok∧Fr m m' []:=zK a m
theorem Wb (h:(xe t rb a c b s).p m):MC Tryz.prog Ud [lpp rb] m fun v M=>(v=(Xm b s).1.v∧(xe t rb a c b (Xm b s).2).p M)∧Fr m M [rb]:=by
 refine RH (by simp [Tryz.f33]) ?_
 have H:=Hq.one h
 simp (disch:=omega) only [go_sem,undef]
 refine qh H fun b2 _ _ H=>?_
 simp (disch:=omega) only [go_sem,undef]
 refine tS1 H (fun h=>qR h) fun _ _ H=>?_
 simp (disch:=omega) only [go_sem,undef]
 refine qh H fun b3 _ _ H=>?_
 simp (disch:=omega) only [go_sem,undef]
 refine qs H rfl rfl fun _ _ H=>?_
 simp (disch:=omega) only [go_sem,undef]
 refine ql (fun n E m'=>∃ k,k≤7∧n=7 - k∧E=[(0,lpp rb),(2,.pointer (some ⟨b2,0,none⟩)),(3,.pointer (some ⟨b3,0,none⟩)),(8,.int .i64 (k:Nat))] ∧
  Hq m m' [rb] [qv b3 (.cells (Att.mk (s.num b).1 (aS b (s.num b).2 k).1).cs.toArray qb (0,0)),qv b2 (.cells Att.zero.cs.toArray qb (0,0)),xe t rb a c b (aS b (s.num b).2 k).2]) 7 rfl ⟨0,by omega,rfl,rfl,H⟩ ?_
 clear H
 rintro n E m' ⟨k,hk,rfl,rfl,H⟩
 simp (disch:=omega) only [go_sem,undef]
 refine ZI (fun h1=>?_) (fun h1=>?_)
 ·have h2:k < 7:=by omega
  simp (disch:=omega) only [go_sem,undef]
  refine tS2 H (fun h=>qR h) fun _ _ H=>?_
  simp (disch:=omega) only [go_sem,undef,H.cs]
  refine zG H fun _ _ H=>?_
  simp (disch:=omega) only [go_sem,undef]
  exact qV (7 - (k+1)) (by omega) ⟨k+1,by omega,rfl,rfl,H⟩
 ·have h2:k=7:=by omega
  subst h2
  simp (disch:=omega) only [go_sem,undef]
  repeat' (first
   | ((first
    | (with_reducible first
     | refine qh H fun _ _ f H2=>?_
     | refine zG H fun _ f H2=>?_
     | refine Jv H fun _ f H2=>?_
     | refine yZ H fun _ f H2=>?_
     | refine Xb H fun _ f H2=>?_
     | refine Xa H fun _ f H2=>?_
     | refine XY H fun _ f H2=>?_
     | refine tQ0 H (fun h=>zv h) fun _ f H2=>?_
     | refine tQ1 H (fun h=>zv h) fun _ f H2=>?_
     | refine tQ2 H (fun h=>zv h) fun _ f H2=>?_
     | refine tQ3 H (fun h=>zv h) fun _ f H2=>?_
     | refine tQ4 H (fun h=>zv h) fun _ f H2=>?_
     | refine tS0 H (fun h=>zW h) fun _ f H2=>?_
     | refine tS1 H (fun h=>zW h) fun _ f H2=>?_
     | refine tS2 H (fun h=>zW h) fun _ f H2=>?_
     | refine tS3 H (fun h=>zW h) fun _ f H2=>?_
     | refine tS4 H (fun h=>zW h) fun _ f H2=>?_
     | refine qY H (Nh _ _) fun _ f H2=>?_)
    | ((with_reducible refine qs H ?hl ?h1 fun _ f H2=>?_);(case hl=>rfl);(case h1=>rfl))
    | ((with_reducible refine zQ H ?hl ?h1 fun _ f H2=>?_);(case hl=>rfl);(case h1=>rfl))
    | ((with_reducible refine jU H ?hl ?h1 fun _ f H2=>?_);(case hl=>rfl);(case h1=>rfl))
    | ((with_reducible refine xm H ?hl ?h1 fun _ f H2=>?_);(case hl=>rfl);(case h1=>rfl))
    | ((with_reducible refine xi H ?hl ?h1 fun _ f H2=>?_);(case hl=>rfl);(case h1=>rfl))
    | ((with_reducible refine xh H ?hl ?h1 fun _ f H2=>?_);(case hl=>rfl);(case h1=>rfl))
    | ((with_reducible refine JQ H ?hl ?h1 fun _ f H2=>?_);(case hl=>exact Nat.le_of_ble_eq_true rfl);(case h1=>rfl);(simp only [go_sem] at H2))
    | ((with_reducible refine Jy H ?hl ?h1 fun _ f H2=>?_);(case hl=>exact Nat.le_of_ble_eq_true rfl);(case h1=>rfl);(simp only [go_sem] at H2))
    | ((with_reducible refine Xd H ?hl ?h1 fun _ f H2=>?_);(case hl=>exact Nat.le_of_ble_eq_true rfl);(case h1=>rfl);(simp only [go_sem] at H2))
    | ((with_reducible refine Xc H ?hl ?h1 fun _ f H2=>?_);(case hl=>exact Nat.le_of_ble_eq_true rfl);(case h1=>rfl);(simp only [go_sem] at H2)));clear f;clear H;have H:=H2;clear H2;simp (disch:=omega) only [go_sem,undef,H.cs, *])
   | ((with_reducible refine qp (fun hq=>?_) (fun hq=>?_))<;>(try simp only [Bool.not_true,Bool.not_false] at hq)<;>simp (disch:=omega) only [go_sem,undef,H.cs, *])
   | ((with_reducible refine qe (fun hq=>?_) (fun hq=>?_))<;>simp (disch:=omega) only [go_sem,undef,H.cs, *]))
  all_goals (have hA:=H.at 2 rfl;have F:=H.fr;clear H h;refine xY ⟨?_,F⟩;clear F)
  all_goals (try simp only [decide_eq_true_eq,decide_eq_false_iff_not] at *)
  all_goals first
   | (exfalso;omega)
   | (exfalso;simp_all;done)
   | (simp_all [Xm,gk,Vd,RS.chk,RS.bad];done)
theorem xp (h:(xe t rb a c b s).p m):MC Tryz.prog ti [lpp rb] m fun v M=>(v=(ch b s).1.v∧(xe t rb a c b (ch b s).2).p M)∧Fr m M [rb]:=by
 refine rZ (by simp [Tryz.f33]) ?_
 have H:=Hq.one h
 simp (disch:=omega) only [go_sem,undef]
 repeat' (first
  | ((first
   | (with_reducible first
    | refine qh H fun _ _ f H2=>?_
    | refine zG H fun _ f H2=>?_
    | refine Jv H fun _ f H2=>?_
    | refine yZ H fun _ f H2=>?_
    | refine Xb H fun _ f H2=>?_
    | refine Xa H fun _ f H2=>?_
    | refine XY H fun _ f H2=>?_
    | refine tS0 H (fun h=>qR h) fun _ f H2=>?_
    | refine tS1 H (fun h=>qR h) fun _ f H2=>?_
    | refine tS2 H (fun h=>qR h) fun _ f H2=>?_
    | refine tS3 H (fun h=>qR h) fun _ f H2=>?_
    | refine tS4 H (fun h=>qR h) fun _ f H2=>?_
    | refine tS0 H (fun h=>Kz h) fun _ f H2=>?_
    | refine tS1 H (fun h=>Kz h) fun _ f H2=>?_
    | refine tS2 H (fun h=>Kz h) fun _ f H2=>?_
    | refine tS3 H (fun h=>Kz h) fun _ f H2=>?_
    | refine tS4 H (fun h=>Kz h) fun _ f H2=>?_
    | refine tS0 H (fun h=>bD h) fun _ f H2=>?_
    | refine tS1 H (fun h=>bD h) fun _ f H2=>?_
    | refine tS2 H (fun h=>bD h) fun _ f H2=>?_
    | refine tS3 H (fun h=>bD h) fun _ f H2=>?_
    | refine tS4 H (fun h=>bD h) fun _ f H2=>?_
    | refine tS0 H (fun h=>Wb h) fun _ f H2=>?_
    | refine tS1 H (fun h=>Wb h) fun _ f H2=>?_
    | refine tS2 H (fun h=>Wb h) fun _ f H2=>?_
    | refine tS3 H (fun h=>Wb h) fun _ f H2=>?_
    | refine tS4 H (fun h=>Wb h) fun _ f H2=>?_
    | refine tS0 H (fun h=>JX h) fun _ f H2=>?_
    | refine tS1 H (fun h=>JX h) fun _ f H2=>?_
    | refine tS2 H (fun h=>JX h) fun _ f H2=>?_
    | refine tS3 H (fun h=>JX h) fun _ f H2=>?_
    | refine tS4 H (fun h=>JX h) fun _ f H2=>?_
    | refine tQ0 H (fun h=>zv h) fun _ f H2=>?_
    | refine tQ1 H (fun h=>zv h) fun _ f H2=>?_
    | refine tQ2 H (fun h=>zv h) fun _ f H2=>?_
    | refine tQ3 H (fun h=>zv h) fun _ f H2=>?_
    | refine tQ4 H (fun h=>zv h) fun _ f H2=>?_
    | refine tS0 H (fun h=>zW h) fun _ f H2=>?_
    | refine tS1 H (fun h=>zW h) fun _ f H2=>?_
    | refine tS2 H (fun h=>zW h) fun _ f H2=>?_
    | refine tS3 H (fun h=>zW h) fun _ f H2=>?_
    | refine tS4 H (fun h=>zW h) fun _ f H2=>?_
    | refine qY H (xN _ _) fun _ f H2=>?_)
   | ((with_reducible refine qs H ?hl ?h1 fun _ f H2=>?_);(case hl=>rfl);(case h1=>rfl))
   | ((with_reducible refine zQ H ?hl ?h1 fun _ f H2=>?_);(case hl=>rfl);(case h1=>rfl))
   | ((with_reducible refine jU H ?hl ?h1 fun _ f H2=>?_);(case hl=>rfl);(case h1=>rfl))
   | ((with_reducible refine xm H ?hl ?h1 fun _ f H2=>?_);(case hl=>rfl);(case h1=>rfl))
   | ((with_reducible refine xi H ?hl ?h1 fun _ f H2=>?_);(case hl=>rfl);(case h1=>rfl))
   | ((with_reducible refine xh H ?hl ?h1 fun _ f H2=>?_);(case hl=>rfl);(case h1=>rfl))
   | ((with_reducible refine JQ H ?hl ?h1 fun _ f H2=>?_);(case hl=>exact Nat.le_of_ble_eq_true rfl);(case h1=>rfl);(simp only [go_sem] at H2))
   | ((with_reducible refine Jy H ?hl ?h1 fun _ f H2=>?_);(case hl=>exact Nat.le_of_ble_eq_true rfl);(case h1=>rfl);(simp only [go_sem] at H2))
   | ((with_reducible refine Xd H ?hl ?h1 fun _ f H2=>?_);(case hl=>exact Nat.le_of_ble_eq_true rfl);(case h1=>rfl);(simp only [go_sem] at H2))
   | ((with_reducible refine Xc H ?hl ?h1 fun _ f H2=>?_);(case hl=>exact Nat.le_of_ble_eq_true rfl);(case h1=>rfl);(simp only [go_sem] at H2)));clear f;clear H;have H:=H2;clear H2;simp (disch:=omega) only [go_sem,undef,H.cs, *])
  | ((with_reducible refine qp (fun hq=>?_) (fun hq=>?_))<;>(try simp only [Bool.not_true,Bool.not_false] at hq)<;>simp (disch:=omega) only [go_sem,undef,H.cs, *])
  | ((with_reducible refine qe (fun hq=>?_) (fun hq=>?_))<;>simp (disch:=omega) only [go_sem,undef,H.cs, *]))
 all_goals (have hA:=H.at 2 rfl;have F:=H.fr;clear H h;refine xY ⟨?_,F⟩;clear F)
 all_goals (try simp only [decide_eq_true_eq,decide_eq_false_iff_not] at *)
 all_goals first
  | (exfalso;omega)
  | (exfalso;simp_all;done)
  | (simp_all [ch,Il,qwo,FO,RS.chk,RS.bad];done)
end Go.Fw
namespace Go.Fw
open Go.Proofs
variable {m:Mem}
theorem jA (s:ByteArray):(cC s).length≤10+s.size:=by
 have:=qo s.size
 rw [cC,List.length_append]
 have:s.data.toList.length=s.size:=rfl
 omega
theorem Gl {T:TypeId} {u:Value} {l l':List UInt8} {m M:Mem} {L:List As} (H:Hq m M [] (byA T u l::L)) (e:l=l'):∃ A',A'=byA T u l'∧A'.p M∧Fr m M []∧∀ b∈A'.fp,m b=none:=by
 subst e
 exact ⟨_,rfl,H.hs.1,H.fr,fun b hb=>(H.done.2.2 b hb).resolve_left (by simp)⟩
theorem oA {c:Cmd} (h:c.right):0≤c.kind∧c.kind≤5∧0≤c.client∧c.client≤8∧0≤c.seq∧c.seq≤1099511627776∧c.key.size≤16∧c.fin.size≤16∧c.old.size≤64∧c.val.size≤64:=by
 rcases h with rfl | h
 ·simp [Cmd.zero,ByteArray.size]
 ·omega
theorem Av {v:Value} {l:List UInt8} (hv:RdB m v l) (hl:l.length≤100000) (c:Cmd) (hc:c.right):CN Tryz.prog qxZ [v,c.v] m fun u A=>A=byA jm u (l++qqt c):=by
 obtain ⟨h1,h2,h3,h4,h5,h6,h7,h8,h9,h10⟩:=oA hc
 refine qqe (by simp [Tryz.f33]) ?_
 have H:=Hq.refl m []
 simp (disch:=omega) only [go_sem,undef]
 repeat' (first
  | ((first
   | (with_reducible first
    | refine qh H fun _ _ f H2=>?_
    | refine zG H fun _ f H2=>?_
    | refine Jv H fun _ f H2=>?_
    | refine yZ H fun _ f H2=>?_
    | refine Xb H fun _ f H2=>?_
    | refine Xa H fun _ f H2=>?_
    | refine XY H fun _ f H2=>?_
    | refine qY H (ju _ _) fun _ f H2=>?_)
   | ((with_reducible refine qs H ?hl ?h1 fun _ f H2=>?_);(case hl=>rfl);(case h1=>rfl))
   | ((with_reducible refine zQ H ?hl ?h1 fun _ f H2=>?_);(case hl=>rfl);(case h1=>rfl))
   | ((with_reducible refine jU H ?hl ?h1 fun _ f H2=>?_);(case hl=>rfl);(case h1=>rfl))
   | ((with_reducible refine xm H ?hl ?h1 fun _ f H2=>?_);(case hl=>rfl);(case h1=>rfl))
   | ((with_reducible refine xi H ?hl ?h1 fun _ f H2=>?_);(case hl=>rfl);(case h1=>rfl))
   | ((with_reducible refine xh H ?hl ?h1 fun _ f H2=>?_);(case hl=>rfl);(case h1=>rfl))
   | ((with_reducible refine JQ H ?hl ?h1 fun _ f H2=>?_);(case hl=>exact Nat.le_of_ble_eq_true rfl);(case h1=>rfl);(simp only [go_sem] at H2))
   | ((with_reducible refine Jy H ?hl ?h1 fun _ f H2=>?_);(case hl=>exact Nat.le_of_ble_eq_true rfl);(case h1=>rfl);(simp only [go_sem] at H2))
   | ((with_reducible refine Xd H ?hl ?h1 fun _ f H2=>?_);(case hl=>exact Nat.le_of_ble_eq_true rfl);(case h1=>rfl);(simp only [go_sem] at H2))
   | ((with_reducible refine Xc H ?hl ?h1 fun _ f H2=>?_);(case hl=>exact Nat.le_of_ble_eq_true rfl);(case h1=>rfl);(simp only [go_sem] at H2))
   | ((with_reducible refine tN0 H (fun h=>zo (zt h) (by grind [qo,jA,List.length_append]) _ (by omega)) fun _ _ _ e f H2=>?_);subst e)
   | ((with_reducible refine tN1 H (fun h=>zo (zt h) (by grind [qo,jA,List.length_append]) _ (by omega)) fun _ _ _ e f H2=>?_);subst e)
   | ((with_reducible refine tN2 H (fun h=>zo (zt h) (by grind [qo,jA,List.length_append]) _ (by omega)) fun _ _ _ e f H2=>?_);subst e)
   | ((with_reducible refine xd H (zo (hv.frame H.fr) (by omega) _ (by omega)) fun _ _ _ e f H2=>?_);subst e)
   | ((with_reducible refine tN0 H (fun h=>dI (zt h) (by grind [qo,jA,List.length_append]) _ (by omega)) fun _ _ _ e f H2=>?_);subst e)
   | ((with_reducible refine tN1 H (fun h=>dI (zt h) (by grind [qo,jA,List.length_append]) _ (by omega)) fun _ _ _ e f H2=>?_);subst e)
   | ((with_reducible refine tN2 H (fun h=>dI (zt h) (by grind [qo,jA,List.length_append]) _ (by omega)) fun _ _ _ e f H2=>?_);subst e));clear f;clear H;have H:=H2;clear H2;simp (disch:=omega) only [go_sem,undef,H.cs, *,decide_eq_true hc])
  | ((with_reducible refine qp (fun hq=>?_) (fun hq=>?_))<;>(try simp only [Bool.not_true,Bool.not_false] at hq)<;>simp (disch:=omega) only [go_sem,undef,H.cs, *,decide_eq_true hc])
  | ((with_reducible refine qe (fun hq=>?_) (fun hq=>?_))<;>simp (disch:=omega) only [go_sem,undef,H.cs, *,decide_eq_true hc]))
 all_goals (simp only [decide_eq_true_eq,decide_eq_false_iff_not] at *)
 all_goals first
  | exact xY (Gl H (by simp [qqt,qZh, *]))
  | (exfalso;omega)
theorem oQ {v:Value} {l:List UInt8} (hv:RdB m v l) (hl:l.length≤100000) (a:Att) (ha:xW a):CN Tryz.prog Uc [v,a.v] m fun u A=>A=byA jm u (l++TK a):=by
 refine Rp (by simp [Tryz.f33]) ?_
 have H:=Hq.refl m []
 have hs:=ha.2
 have hd:∀ k,k < 7→0≤a.deps.g k∧a.deps.g k≤1073741824:=fun k hk=>by rw [Dp.qKk _ hk];exact ha.1 _
 simp (disch:=omega) only [go_sem,undef]
 refine qh H fun b1 _ _ H=>?_
 simp (disch:=omega) only [go_sem,undef,H.cs]
 refine xd H (zo (hv.frame H.fr) (by omega) _ (by omega)) fun u M A' e f H=>?_
 subst e
 simp (disch:=omega) only [go_sem,undef,H.cs]
 refine ql (fun n E m'=>∃ k u,k≤7∧n=7 - k∧E=[(0,u),(12,.agg (dv a.deps).toArray),(13,.int .i64 (k:Nat))]∧(Wc a.deps k).length≤10*k∧Hq m m' [] [byA jm u (l++cQ a.seq++Wc a.deps k)]) 7 rfl ⟨0,u,by omega,rfl,rfl,by simp [Wc],by simpa [Wc] using qwX H⟩ ?_
 clear H f
 rintro n E m' ⟨k,u,hk,rfl,rfl,hlen,H⟩
 simp (disch:=omega) only [go_sem,undef]
 have hn:=qo a.seq
 refine ZI (fun h1=>?_) (fun h1=>?_)
 ·have h2:k < 7:=by omega
  have h3:=hd k h2
  have h4:=qo (a.deps.g k)
  simp (disch:=omega) only [go_sem,undef]
  refine tN0 H (fun h=>zo (zt h) (by simp only [List.length_append];omega) _ (by omega)) fun u2 M A' e f H=>?_
  subst e
  simp (disch:=omega) only [go_sem,undef]
  exact qV (7 - (k+1)) (by omega) ⟨k+1,u2,by omega,rfl,rfl,by simp only [Wc,List.length_append];omega,by simpa [Wc] using qwX H⟩
 ·have h2:k=7:=by omega
  subst h2
  simp (disch:=omega) only [go_sem,undef]
  exact Gl H (by simp [TK])
theorem Gg {v:Value} {l:List UInt8} (hv:RdB m v l) (hl:l.length≤100000) (p:Int×Int) (hp:(-9223372036854775808≤p.1∧p.1≤9223372036854775807)∧-9223372036854775808≤p.2∧p.2≤9223372036854775807):CN Tryz.prog By [v,pv p] m fun u A=>A=byA jm u (l++bF p):=by
 refine uQ (by simp [Tryz.f33]) ?_
 have H:=Hq.refl m []
 simp (disch:=omega) only [go_sem,undef]
 repeat' (first
  | ((first
   | (with_reducible first
    | refine qh H fun _ _ f H2=>?_
    | refine zG H fun _ f H2=>?_
    | refine Jv H fun _ f H2=>?_
    | refine yZ H fun _ f H2=>?_
    | refine Xb H fun _ f H2=>?_
    | refine Xa H fun _ f H2=>?_
    | refine XY H fun _ f H2=>?_)
   | ((with_reducible refine qs H ?hl ?h1 fun _ f H2=>?_);(case hl=>rfl);(case h1=>rfl))
   | ((with_reducible refine zQ H ?hl ?h1 fun _ f H2=>?_);(case hl=>rfl);(case h1=>rfl))
   | ((with_reducible refine jU H ?hl ?h1 fun _ f H2=>?_);(case hl=>rfl);(case h1=>rfl))
   | ((with_reducible refine xm H ?hl ?h1 fun _ f H2=>?_);(case hl=>rfl);(case h1=>rfl))
   | ((with_reducible refine xi H ?hl ?h1 fun _ f H2=>?_);(case hl=>rfl);(case h1=>rfl))
   | ((with_reducible refine xh H ?hl ?h1 fun _ f H2=>?_);(case hl=>rfl);(case h1=>rfl))
   | ((with_reducible refine JQ H ?hl ?h1 fun _ f H2=>?_);(case hl=>exact Nat.le_of_ble_eq_true rfl);(case h1=>rfl);(simp only [go_sem] at H2))
   | ((with_reducible refine Jy H ?hl ?h1 fun _ f H2=>?_);(case hl=>exact Nat.le_of_ble_eq_true rfl);(case h1=>rfl);(simp only [go_sem] at H2))
   | ((with_reducible refine Xd H ?hl ?h1 fun _ f H2=>?_);(case hl=>exact Nat.le_of_ble_eq_true rfl);(case h1=>rfl);(simp only [go_sem] at H2))
   | ((with_reducible refine Xc H ?hl ?h1 fun _ f H2=>?_);(case hl=>exact Nat.le_of_ble_eq_true rfl);(case h1=>rfl);(simp only [go_sem] at H2))
   | ((with_reducible refine tN0 H (fun h=>zo (zt h) (by grind [qo,jA,List.length_append]) _ (by omega)) fun _ _ _ e f H2=>?_);subst e)
   | ((with_reducible refine tN1 H (fun h=>zo (zt h) (by grind [qo,jA,List.length_append]) _ (by omega)) fun _ _ _ e f H2=>?_);subst e)
   | ((with_reducible refine tN2 H (fun h=>zo (zt h) (by grind [qo,jA,List.length_append]) _ (by omega)) fun _ _ _ e f H2=>?_);subst e)
   | ((with_reducible refine xd H (zo (hv.frame H.fr) (by omega) _ (by omega)) fun _ _ _ e f H2=>?_);subst e));clear f;clear H;have H:=H2;clear H2;simp (disch:=omega) only [go_sem,undef,H.cs, *])
  | ((with_reducible refine qp (fun hq=>?_) (fun hq=>?_))<;>(try simp only [Bool.not_true,Bool.not_false] at hq)<;>simp (disch:=omega) only [go_sem,undef,H.cs, *])
  | ((with_reducible refine qe (fun hq=>?_) (fun hq=>?_))<;>simp (disch:=omega) only [go_sem,undef,H.cs, *]))
 exact xY (Gl H (by simp [bF]))
theorem Lh (d:Dp):∀ k,(Wc d k).length≤10*k
 | 0=>by simp [Wc]
 | k+1=>by
  have:=Lh d k
  have:=qo (d.g k)
  simp only [Wc,List.length_append];omega
theorem zr {c:Cmd} (h:c.right):(qqt c).length≤300:=by
 obtain ⟨h1,h2,h3,h4,h5,h6,h7,h8,h9,h10⟩:=oA h
 have:=qo c.kind
 have:=qo c.client
 have:=qo c.seq
 have:=jA c.key
 have:=jA c.fin
 have:=jA c.old
 have:=jA c.val
 unfold qqt qZh
 split
 ·simp;omega
 ·split
  ·simp only [List.length_append];omega
  ·split
   ·simp only [List.length_append];omega
   ·split<;>simp only [List.length_append,List.length_nil]<;>omega
theorem zd (p:Int×Int):(bF p).length≤20:=by
 have:=qo p.1
 have:=qo p.2
 simp only [bF,List.length_append];omega
theorem zF (a:Att):(TK a).length≤80:=by
 have:=qo a.seq
 have:=Lh a.deps 7
 simp only [TK,List.length_append];omega
theorem Xg {v:Value} {l:List UInt8} (hv:RdB m v l) (hl:l.length≤10000) (c:Cel) (hc:c.right):CN Tryz.prog tg [v,c.v] m fun u A=>A=byA jm u (l++qqB c):=by
 have hc0:=hc
 obtain ⟨h1,h2,h3,h4,_,_,_,h5,h6⟩:=hc
 have:=zr h5
 refine pO (by simp [Tryz.f33]) ?_
 have H:=Hq.refl m []
 simp (disch:=omega) only [go_sem,undef]
 repeat' (first
  | ((first
   | (with_reducible first
    | refine qh H fun _ _ f H2=>?_
    | refine zG H fun _ f H2=>?_
    | refine Jv H fun _ f H2=>?_
    | refine yZ H fun _ f H2=>?_
    | refine Xb H fun _ f H2=>?_
    | refine Xa H fun _ f H2=>?_
    | refine XY H fun _ f H2=>?_
    | refine qY H (xN _ _) fun _ f H2=>?_)
   | ((with_reducible refine qs H ?hl ?h1 fun _ f H2=>?_);(case hl=>rfl);(case h1=>rfl))
   | ((with_reducible refine zQ H ?hl ?h1 fun _ f H2=>?_);(case hl=>rfl);(case h1=>rfl))
   | ((with_reducible refine jU H ?hl ?h1 fun _ f H2=>?_);(case hl=>rfl);(case h1=>rfl))
   | ((with_reducible refine xm H ?hl ?h1 fun _ f H2=>?_);(case hl=>rfl);(case h1=>rfl))
   | ((with_reducible refine xi H ?hl ?h1 fun _ f H2=>?_);(case hl=>rfl);(case h1=>rfl))
   | ((with_reducible refine xh H ?hl ?h1 fun _ f H2=>?_);(case hl=>rfl);(case h1=>rfl))
   | ((with_reducible refine JQ H ?hl ?h1 fun _ f H2=>?_);(case hl=>exact Nat.le_of_ble_eq_true rfl);(case h1=>rfl);(simp only [go_sem] at H2))
   | ((with_reducible refine Jy H ?hl ?h1 fun _ f H2=>?_);(case hl=>exact Nat.le_of_ble_eq_true rfl);(case h1=>rfl);(simp only [go_sem] at H2))
   | ((with_reducible refine Xd H ?hl ?h1 fun _ f H2=>?_);(case hl=>exact Nat.le_of_ble_eq_true rfl);(case h1=>rfl);(simp only [go_sem] at H2))
   | ((with_reducible refine Xc H ?hl ?h1 fun _ f H2=>?_);(case hl=>exact Nat.le_of_ble_eq_true rfl);(case h1=>rfl);(simp only [go_sem] at H2))
   | ((with_reducible refine xd H (zo (hv.frame H.fr) (by omega) _ (by omega)) fun _ _ _ e f H2=>?_);subst e)
   | ((with_reducible refine tN0 H (fun h=>Gg (zt h) (by grind [qo,zd,zr,zF,List.length_append]) _ (by omega)) fun _ _ _ e f H2=>?_);subst e)
   | ((with_reducible refine tN1 H (fun h=>Gg (zt h) (by grind [qo,zd,zr,zF,List.length_append]) _ (by omega)) fun _ _ _ e f H2=>?_);subst e)
   | ((with_reducible refine tN2 H (fun h=>Gg (zt h) (by grind [qo,zd,zr,zF,List.length_append]) _ (by omega)) fun _ _ _ e f H2=>?_);subst e)
   | ((with_reducible refine tN0 H (fun h=>Av (zt h) (by grind [qo,zd,zr,zF,List.length_append]) _ h5) fun _ _ _ e f H2=>?_);subst e)
   | ((with_reducible refine tN1 H (fun h=>Av (zt h) (by grind [qo,zd,zr,zF,List.length_append]) _ h5) fun _ _ _ e f H2=>?_);subst e)
   | ((with_reducible refine tN2 H (fun h=>Av (zt h) (by grind [qo,zd,zr,zF,List.length_append]) _ h5) fun _ _ _ e f H2=>?_);subst e)
   | ((with_reducible refine tN0 H (fun h=>oQ (zt h) (by grind [qo,zd,zr,zF,List.length_append]) _ h6) fun _ _ _ e f H2=>?_);subst e)
   | ((with_reducible refine tN1 H (fun h=>oQ (zt h) (by grind [qo,zd,zr,zF,List.length_append]) _ h6) fun _ _ _ e f H2=>?_);subst e)
   | ((with_reducible refine tN2 H (fun h=>oQ (zt h) (by grind [qo,zd,zr,zF,List.length_append]) _ h6) fun _ _ _ e f H2=>?_);subst e)
   | ((with_reducible refine tN0 H (fun h=>eX (zt h) (by grind [qo,zd,zr,zF,List.length_append]) _) fun _ _ _ e f H2=>?_);subst e)
   | ((with_reducible refine tN1 H (fun h=>eX (zt h) (by grind [qo,zd,zr,zF,List.length_append]) _) fun _ _ _ e f H2=>?_);subst e)
   | ((with_reducible refine tN2 H (fun h=>eX (zt h) (by grind [qo,zd,zr,zF,List.length_append]) _) fun _ _ _ e f H2=>?_);subst e));clear f;clear H;have H:=H2;clear H2;simp (disch:=omega) only [go_sem,undef,H.cs, *,decide_eq_true hc0])
  | ((with_reducible refine qp (fun hq=>?_) (fun hq=>?_))<;>(try simp only [Bool.not_true,Bool.not_false] at hq)<;>simp (disch:=omega) only [go_sem,undef,H.cs, *,decide_eq_true hc0])
  | ((with_reducible refine qe (fun hq=>?_) (fun hq=>?_))<;>simp (disch:=omega) only [go_sem,undef,H.cs, *,decide_eq_true hc0]))
 all_goals (simp only [decide_eq_true_eq,decide_eq_false_iff_not] at *)
 all_goals exact xY (Gl H (by
  rw [qqB]
  first
   | rw [if_pos hq]
   | rw [if_neg hq]
  simp only [List.append_assoc,List.append_nil]))
theorem MU (i:Int×Int) (hi:(-9223372036854775808≤i.1∧i.1≤9223372036854775807)∧-9223372036854775808≤i.2∧i.2≤9223372036854775807) (c:Cel) (hc:c.right):CN Tryz.prog ML [pv i,c.v] m fun u A=>A=byA jm u (Xe i c):=by
 refine HA (Nat.le_of_ble_eq_true rfl) ?_
 have H:=Hq.refl m []
 simp (disch:=omega) only [go_sem,undef]
 repeat' (first
  | ((first
   | (with_reducible first
    | refine qh H fun _ _ f H2=>?_
    | refine zG H fun _ f H2=>?_
    | refine Jv H fun _ f H2=>?_
    | refine yZ H fun _ f H2=>?_
    | refine Xb H fun _ f H2=>?_
    | refine Xa H fun _ f H2=>?_
    | refine XY H fun _ f H2=>?_)
   | ((with_reducible refine qs H ?hl ?h1 fun _ f H2=>?_);(case hl=>rfl);(case h1=>rfl))
   | ((with_reducible refine zQ H ?hl ?h1 fun _ f H2=>?_);(case hl=>rfl);(case h1=>rfl))
   | ((with_reducible refine jU H ?hl ?h1 fun _ f H2=>?_);(case hl=>rfl);(case h1=>rfl))
   | ((with_reducible refine xm H ?hl ?h1 fun _ f H2=>?_);(case hl=>rfl);(case h1=>rfl))
   | ((with_reducible refine xi H ?hl ?h1 fun _ f H2=>?_);(case hl=>rfl);(case h1=>rfl))
   | ((with_reducible refine xh H ?hl ?h1 fun _ f H2=>?_);(case hl=>rfl);(case h1=>rfl))
   | ((with_reducible refine JQ H ?hl ?h1 fun _ f H2=>?_);(case hl=>exact Nat.le_of_ble_eq_true rfl);(case h1=>rfl);(simp only [go_sem] at H2))
   | ((with_reducible refine Jy H ?hl ?h1 fun _ f H2=>?_);(case hl=>exact Nat.le_of_ble_eq_true rfl);(case h1=>rfl);(simp only [go_sem] at H2))
   | ((with_reducible refine Xd H ?hl ?h1 fun _ f H2=>?_);(case hl=>exact Nat.le_of_ble_eq_true rfl);(case h1=>rfl);(simp only [go_sem] at H2))
   | ((with_reducible refine Xc H ?hl ?h1 fun _ f H2=>?_);(case hl=>exact Nat.le_of_ble_eq_true rfl);(case h1=>rfl);(simp only [go_sem] at H2))
   | ((with_reducible refine xd H (zo (RdS.nil qqM _) (by simp) _ (by omega)) fun _ _ _ e f H2=>?_);subst e)
   | ((with_reducible refine tN0 H (fun h=>zo (zt h) (by grind [qo,zd,zr,zF,List.length_append,List.length_nil]) _ (by omega)) fun _ _ _ e f H2=>?_);subst e)
   | ((with_reducible refine tN1 H (fun h=>zo (zt h) (by grind [qo,zd,zr,zF,List.length_append,List.length_nil]) _ (by omega)) fun _ _ _ e f H2=>?_);subst e)
   | ((with_reducible refine tN2 H (fun h=>zo (zt h) (by grind [qo,zd,zr,zF,List.length_append,List.length_nil]) _ (by omega)) fun _ _ _ e f H2=>?_);subst e)
   | ((with_reducible refine tN0 H (fun h=>Xg (zt h) (by grind [qo,zd,zr,zF,List.length_append,List.length_nil]) _ hc) fun _ _ _ e f H2=>?_);subst e)
   | ((with_reducible refine tN1 H (fun h=>Xg (zt h) (by grind [qo,zd,zr,zF,List.length_append,List.length_nil]) _ hc) fun _ _ _ e f H2=>?_);subst e)
   | ((with_reducible refine tN2 H (fun h=>Xg (zt h) (by grind [qo,zd,zr,zF,List.length_append,List.length_nil]) _ hc) fun _ _ _ e f H2=>?_);subst e));clear f;clear H;have H:=H2;clear H2;simp (disch:=omega) only [go_sem,undef,H.cs, *])
  | ((with_reducible refine qp (fun hq=>?_) (fun hq=>?_))<;>(try simp only [Bool.not_true,Bool.not_false] at hq)<;>simp (disch:=omega) only [go_sem,undef,H.cs, *])
  | ((with_reducible refine qe (fun hq=>?_) (fun hq=>?_))<;>simp (disch:=omega) only [go_sem,undef,H.cs, *]))
 exact xY (Gl H (by simp [Xe,bF]))
end Go.Fw
namespace Go.Fw
open Go.Proofs
variable {m:Mem}
theorem Lg {b:List UInt8} {i:Int×Int} {c:Cel} {s:RS} (h:(s.fin b).wr=0) (hi:qN i):oy b i c s=(i,c,0):=by
 unfold oy;rw [if_neg (not_not_intro h),if_pos hi]
theorem qxo {b:List UInt8} {i:Int×Int} {c:Cel} {s:RS} (h:(s.fin b).wr=0) (hi:¬ qN i):oy b i c s=((0,0),Cel.zero,4):=by
 unfold oy;rw [if_neg (not_not_intro h),if_neg hi]
theorem qqx {b:List UInt8} {i:Int×Int} {c:Cel} {s:RS} (h:¬ (s.fin b).wr=0):oy b i c s=((0,0),Cel.zero,(s.fin b).wr):=by
 unfold oy;rw [if_pos h]
theorem MT {v:Value} {b:List UInt8} (hv:RdB m v b) (hb:b.length≤1099511627776):MC Tryz.prog MI [v] m fun u M=>u=.tuple #[pv (jG b).1,(jG b).2.1.v,.int .i64 (jG b).2.2]∧Fr m M []:=by
 refine Hr (by simp [Tryz.f33]) ?_
 have H:=Hq.refl m []
 simp (disch:=omega) only [go_sem,undef]
 repeat' (first
  | ((first
   | (with_reducible first
    | refine qh H fun _ _ f H2=>?_
    | refine zG H fun _ f H2=>?_
    | refine Jv H fun _ f H2=>?_
    | refine yZ H fun _ f H2=>?_
    | refine Xb H fun _ f H2=>?_
    | refine Xa H fun _ f H2=>?_
    | refine XY H fun _ f H2=>?_)
   | ((with_reducible refine qs H ?hl ?h1 fun _ f H2=>?_);(case hl=>rfl);(case h1=>rfl))
   | ((with_reducible refine zQ H ?hl ?h1 fun _ f H2=>?_);(case hl=>rfl);(case h1=>rfl))
   | ((with_reducible refine jU H ?hl ?h1 fun _ f H2=>?_);(case hl=>rfl);(case h1=>rfl))
   | ((with_reducible refine xm H ?hl ?h1 fun _ f H2=>?_);(case hl=>rfl);(case h1=>rfl))
   | ((with_reducible refine xi H ?hl ?h1 fun _ f H2=>?_);(case hl=>rfl);(case h1=>rfl))
   | ((with_reducible refine xh H ?hl ?h1 fun _ f H2=>?_);(case hl=>rfl);(case h1=>rfl))
   | ((with_reducible refine JQ H ?hl ?h1 fun _ f H2=>?_);(case hl=>exact Nat.le_of_ble_eq_true rfl);(case h1=>rfl);(simp only [go_sem] at H2))
   | ((with_reducible refine Jy H ?hl ?h1 fun _ f H2=>?_);(case hl=>exact Nat.le_of_ble_eq_true rfl);(case h1=>rfl);(simp only [go_sem] at H2))
   | ((with_reducible refine Xd H ?hl ?h1 fun _ f H2=>?_);(case hl=>exact Nat.le_of_ble_eq_true rfl);(case h1=>rfl);(simp only [go_sem] at H2))
   | ((with_reducible refine Xc H ?hl ?h1 fun _ f H2=>?_);(case hl=>exact Nat.le_of_ble_eq_true rfl);(case h1=>rfl);(simp only [go_sem] at H2)));clear f;clear H;have H:=H2;clear H2;simp (disch:=omega) only [go_sem,undef,H.cs, *])
  | ((with_reducible refine qp (fun hq=>?_) (fun hq=>?_))<;>(try simp only [Bool.not_true,Bool.not_false] at hq)<;>simp (disch:=omega) only [go_sem,undef,H.cs, *])
  | ((with_reducible refine qe (fun hq=>?_) (fun hq=>?_))<;>simp (disch:=omega) only [go_sem,undef,H.cs, *]))
 refine xd H (Po (hv.frame H.fr) hb) fun u M A' ⟨rb,a,c,e,eA⟩ f H=>?_
 subst e eA
 simp (disch:=omega) only [go_sem,undef]
 repeat' (first
  | ((first
   | (with_reducible first
    | refine qh H fun _ _ f H2=>?_
    | refine zG H fun _ f H2=>?_
    | refine Jv H fun _ f H2=>?_
    | refine yZ H fun _ f H2=>?_
    | refine Xb H fun _ f H2=>?_
    | refine Xa H fun _ f H2=>?_
    | refine XY H fun _ f H2=>?_
    | refine tS0 H (fun h=>qR h) fun _ f H2=>?_
    | refine tS1 H (fun h=>qR h) fun _ f H2=>?_
    | refine tS2 H (fun h=>qR h) fun _ f H2=>?_
    | refine tS3 H (fun h=>qR h) fun _ f H2=>?_
    | refine tS4 H (fun h=>qR h) fun _ f H2=>?_
    | refine tS0 H (fun h=>xp h) fun _ f H2=>?_
    | refine tS1 H (fun h=>xp h) fun _ f H2=>?_
    | refine tS2 H (fun h=>xp h) fun _ f H2=>?_
    | refine tS3 H (fun h=>xp h) fun _ f H2=>?_
    | refine tS4 H (fun h=>xp h) fun _ f H2=>?_
    | refine tS0 H (fun h=>VF h) fun _ f H2=>?_
    | refine tS1 H (fun h=>VF h) fun _ f H2=>?_
    | refine tS2 H (fun h=>VF h) fun _ f H2=>?_
    | refine tS3 H (fun h=>VF h) fun _ f H2=>?_
    | refine tS4 H (fun h=>VF h) fun _ f H2=>?_
    | refine qY H (zX _ _) fun _ f H2=>?_)
   | ((with_reducible refine qs H ?hl ?h1 fun _ f H2=>?_);(case hl=>rfl);(case h1=>rfl))
   | ((with_reducible refine zQ H ?hl ?h1 fun _ f H2=>?_);(case hl=>rfl);(case h1=>rfl))
   | ((with_reducible refine jU H ?hl ?h1 fun _ f H2=>?_);(case hl=>rfl);(case h1=>rfl))
   | ((with_reducible refine xm H ?hl ?h1 fun _ f H2=>?_);(case hl=>rfl);(case h1=>rfl))
   | ((with_reducible refine xi H ?hl ?h1 fun _ f H2=>?_);(case hl=>rfl);(case h1=>rfl))
   | ((with_reducible refine xh H ?hl ?h1 fun _ f H2=>?_);(case hl=>rfl);(case h1=>rfl))
   | ((with_reducible refine JQ H ?hl ?h1 fun _ f H2=>?_);(case hl=>exact Nat.le_of_ble_eq_true rfl);(case h1=>rfl);(simp only [go_sem] at H2))
   | ((with_reducible refine Jy H ?hl ?h1 fun _ f H2=>?_);(case hl=>exact Nat.le_of_ble_eq_true rfl);(case h1=>rfl);(simp only [go_sem] at H2))
   | ((with_reducible refine Xd H ?hl ?h1 fun _ f H2=>?_);(case hl=>exact Nat.le_of_ble_eq_true rfl);(case h1=>rfl);(simp only [go_sem] at H2))
   | ((with_reducible refine Xc H ?hl ?h1 fun _ f H2=>?_);(case hl=>exact Nat.le_of_ble_eq_true rfl);(case h1=>rfl);(simp only [go_sem] at H2)));clear f;clear H;have H:=H2;clear H2;simp (disch:=omega) only [go_sem,undef,H.cs, *])
  | ((with_reducible refine qp (fun hq=>?_) (fun hq=>?_))<;>(try simp only [Bool.not_true,Bool.not_false] at hq)<;>simp (disch:=omega) only [go_sem,undef,H.cs, *])
  | ((with_reducible refine qe (fun hq=>?_) (fun hq=>?_))<;>simp (disch:=omega) only [go_sem,undef,H.cs, *]))
 all_goals (simp only [decide_eq_true_eq,decide_eq_false_iff_not] at *)
 all_goals (have F:=H.fr;clear H;refine xY ⟨?_,F⟩;clear F)
 ·rename_i hw
  rw [show jG b=_ from Lg hw hq];rfl
 ·rename_i hw
  rw [show jG b=_ from qxo hw hq]
 ·rw [show jG b=_ from qqx hq];rfl
end Go.Fw
namespace Go.Fw
open Go
def At (b:List UInt8) (s:RS) (l:List UInt8):Prop:=s.wr=0∧s.pos≤b.length∧b.drop s.pos=l
theorem At.step {b:List UInt8} {s:RS} {x r:List UInt8} (h:At b s (x++r)):At b ⟨s.pos+x.length,0⟩ r:=by
 obtain ⟨h1,h2,h3⟩:=h
 have hl:=congrArg List.length h3
 simp only [List.length_drop,List.length_append] at hl
 refine ⟨rfl,by simp only;omega,?_⟩
 simp only
 rw [← List.drop_drop,h3,List.drop_left]
abbrev R6 (n:Int):Prop:=-9223372036854775808≤n∧n≤9223372036854775807
theorem At.num {b:List UInt8} {s:RS} {n:Int} {r:List UInt8} (hn:R6 n) (h:At b s (cQ n++r)):(s.num b).1=n∧At b (s.num b).2 r:=by
 have hs:=h.step
 obtain ⟨h1,h2,h3⟩:=h
 have:=IT 10 (zig n) 0 0 r (by simpa using qxT n hn) (by omega) (by omega) (.inl rfl)
 have e:s.num b=(n,⟨s.pos+(cQ n).length,0⟩):=by
  unfold RS.num
  rw [if_neg (by simpa using h1),h3]
  unfold cQ
  rw [this]
  simp [qxx,qwP,h1]
 rw [e];exact ⟨rfl,hs⟩
theorem At.count {b:List UInt8} {s:RS} {n k:Int} {r:List UInt8} (hn:R6 n) (h0:0≤n∧n≤k) (h:At b s (cQ n++r)):(s.count b k).1=n∧At b (s.count b k).2 r:=by
 have:=h.num hn
 have e:s.count b k=s.num b:=by
  unfold RS.count;rw [if_neg (by rw [this.1];omega)]
 rw [e];exact this
theorem At.text {b:List UInt8} {s:RS} {x:ByteArray} {k:Int} {r:List UInt8} (h0:(x.size:Int)≤k) (hk:k≤1000000) (h:At b s (cC x++r)):(s.text b k).1=x∧At b (s.text b k).2 r:=by
 rw [cC,List.append_assoc] at h
 obtain ⟨h1,h2⟩:=h.count (k:=k) (by omega) (by omega)
 have h3:=h2.step
 obtain ⟨w1,w2,w3⟩:=h2
 have hl:=congrArg List.length w3
 simp only [List.length_drop,List.length_append] at hl
 have hx:x.data.toList.length=x.size:=rfl
 have e:s.text b k=(x,⟨(s.count b k).2.pos+x.data.toList.length,0⟩):=by
  unfold RS.text
  rw [if_neg (by simpa using w1),h1,if_neg (by omega),w3]
  simp only [Int.toNat_natCast]
  rw [List.take_left' hx]
  simp [hx]
 rw [e];exact ⟨rfl,h3⟩
theorem At.flag {b:List UInt8} {s:RS} {x:Bool} {r:List UInt8} (h:At b s (Le x++r)):(s.flag b).1=x∧At b (s.flag b).2 r:=by
 have hs:=h.step
 obtain ⟨h1,h2,h3⟩:=h
 have e:s.flag b=(x,⟨s.pos+1,0⟩):=by
  unfold RS.flag
  rw [if_neg (by simpa using h1)]
  have hg:b[s.pos]?=some (if x then 1 else 0):=by
   have:=congrArg (fun l=>l[0]?) h3
   simp only [List.getElem?_drop,Nat.add_zero] at this
   rw [this];cases x<;>rfl
  rw [hg]
  cases x<;>rfl
 rw [e]
 have:(Le x).length=1:=by cases x<;>rfl
 rw [this] at hs
 exact ⟨rfl,hs⟩
theorem At.two {b:List UInt8} {s:RS} {p:Int×Int} {r:List UInt8} (h1:R6 p.1) (h2:R6 p.2) (h:At b s (bF p++r)):(s.two b).1=p∧At b (s.two b).2 r:=by
 rw [bF,List.append_assoc] at h
 have a1:=h.num h1
 have a2:=a1.2.num h2
 exact ⟨Prod.ext a1.1 a2.1,a2.2⟩
theorem At.chk {b:List UInt8} {s:RS} {r:List UInt8} (h:At b s r) {x:Bool} (hx:x=true):s.chk x=s:=by
 unfold RS.chk;rw [if_neg (by simp [hx])]
theorem At.cmd {b:List UInt8} {s:RS} {c:Cmd} {r:List UInt8} (hc:c.right) (h:At b s (qqt c++r)):Zc b s=(c,(Zc b s).2)∧At b (Zc b s).2 r:=by
 have key:(Vc b s).1=c∧At b (Vc b s).2 r:=by
  have hb:=oA hc
  unfold qqt at h
  rw [List.append_assoc] at h
  have a1:=h.num (by omega)
  unfold Vc
  rw [a1.1]
  by_cases hk:c.kind=0
  ·rw [if_pos hk,List.nil_append] at a1
   rw [if_pos hk]
   rcases hc with rfl | hc
   ·exact ⟨rfl,a1.2⟩
   ·omega
  ·rw [if_neg hk] at a1 ⊢
   simp only [List.append_assoc] at a1
   have a2:=a1.2.num (by omega)
   have a3:=a2.2.num (by omega)
   have a4:=a3.2.text (k:=16) (by omega) (by omega)
   have e1:((s.num b).2.two b).1=(c.client,c.seq):=Prod.ext a2.1 a3.1
   have e2:((s.num b).2.two b).2=(((s.num b).2.num b).2.num b).2:=rfl
   rw [e1,e2,a4.1]
   have hr:=hc.resolve_left (by rintro rfl;exact hk rfl)
   have hbare:=hr.2.2.2.2.2.2.1
   unfold NY qZh at *
   simp only
   have hcmd:c=⟨c.kind,c.client,c.seq,c.key,c.fin,c.old,c.val⟩:=rfl
   have hf:c.kind≠5→c.fin=noB:=fun h=>by rw [hbare];simp [Cmd.bare,h]
   have ho:c.kind≠4→c.old=noB:=fun h=>by rw [hbare];simp [Cmd.bare,h]
   have hv:¬ (c.kind=2∨c.kind=4)→c.val=noB:=fun h=>by rw [hbare];simp [Cmd.bare,h]
   by_cases k2:c.kind=2
   ·rw [if_pos k2] at a4 ⊢
    have a5:=a4.2.text (k:=64) (by omega) (by omega)
    refine ⟨?_,a5.2⟩
    rw [a5.1]
    exact Eq.trans (by rw [hf (by omega),ho (by omega)]) hcmd.symm
   ·rw [if_neg k2] at a4 ⊢
    by_cases k4:c.kind=4
    ·rw [if_pos k4] at a4 ⊢
     rw [List.append_assoc] at a4
     have a5:=a4.2.text (k:=64) (by omega) (by omega)
     have a6:=a5.2.text (k:=64) (by omega) (by omega)
     refine ⟨?_,a6.2⟩
     rw [a5.1,a6.1]
     exact Eq.trans (by rw [hf (by omega)]) hcmd.symm
    ·rw [if_neg k4] at a4 ⊢
     by_cases k5:c.kind=5
     ·rw [if_pos k5] at a4 ⊢
      have a5:=a4.2.text (k:=16) (by omega) (by omega)
      refine ⟨?_,a5.2⟩
      rw [a5.1]
      exact Eq.trans (by rw [ho (by omega),hv (by omega)]) hcmd.symm
     ·rw [if_neg k5] at a4 ⊢
      refine ⟨?_,a4.2⟩
      exact Eq.trans (by rw [hf (by omega),ho (by omega),hv (by omega)]) hcmd.symm
 have e1:gx b s=(c,(Vc b s).2):=by
  unfold gx
  rw [key.1,key.2.chk (decide_eq_true hc)]
 have e2:Zc b s=(c,(Vc b s).2):=by
  unfold Zc;rw [e1];simp only [key.2.1,ne_eq,not_true_eq_false,if_false]
 rw [e2];exact ⟨rfl,key.2⟩
theorem At.aS {b:List UInt8} {s:RS} {d:Dp} (hd:∀ k,k < 7→R6 (d.g k)):∀ (k:Nat) {r:List UInt8},k≤7→At b s (Wc d k++r)→(∀ j,j < k→(aS b s k).1.g j=d.g j)∧At b (aS b s k).2 r
 | 0,r,_,h=>⟨by simp,h⟩
 | k+1,r,hk,h=>by
  rw [Wc,List.append_assoc] at h
  have ih:=At.aS hd k (by omega) h
  have a:=ih.2.num (hd k (by omega))
  refine ⟨fun j hj=>?_,a.2⟩
  simp only [Go.Fw.aS,Dp.tY]
  by_cases e:j=k
  ·rw [if_pos ⟨e,by omega⟩,a.1,e]
  ·rw [if_neg (fun h=>e h.1)];exact ih.1 j (by omega)
theorem At.att {b:List UInt8} {s:RS} {a:Att} {r:List UInt8} (ha:xW a) (h:At b s (TK a++r)):Xm b s=(a,(Xm b s).2)∧At b (Xm b s).2 r:=by
 have hd:∀ k,k < 7→0≤a.deps.g k∧a.deps.g k≤1073741824:=fun k hk=>by rw [Dp.qKk _ hk];exact ha.1 _
 have key:(Vd b s).1=a∧At b (Vd b s).2 r:=by
  unfold TK at h
  rw [List.append_assoc] at h
  have a1:=h.num (by have:=ha.2;omega)
  have a2:=At.aS (d:=a.deps) (fun k hk=>by have:=hd k hk;omega) 7 (Nat.le_refl _) a1.2
  refine ⟨?_,a2.2⟩
  unfold Vd
  simp only
  rw [a1.1,Dp.rH a2.1]
 have e1:gk b s=(a,(Vd b s).2):=by
  unfold gk
  rw [key.1,key.2.chk (x:=a.ok) (decide_eq_true ha)]
 have e2:Xm b s=(a,(Vd b s).2):=by
  unfold Xm;rw [e1];simp only [key.2.1,ne_eq,not_true_eq_false,if_false]
 rw [e2];exact ⟨rfl,key.2⟩
theorem At.cel {b:List UInt8} {s:RS} {c:Cel} {r:List UInt8} (hc:c.right) (h:At b s (qqB c++r)):(ch b s).1=c∧At b (ch b s).2 r:=by
 obtain ⟨h1,h2,h3,h4,h5,h6,h7,h8,h9⟩:=hc
 have hc0:c.right:=⟨h1,h2,h3,h4,h5,h6,h7,h8,h9⟩
 unfold qqB at h
 simp only [List.append_assoc] at h
 have a1:=h.num (by omega)
 have a2:=a1.2.two (by omega) (by omega)
 have eH:Il b s=({ Cel.zero with st:=c.st,pr:=c.pr },((s.num b).2.two b).2):=by unfold Il;rw [a1.1,a2.1]
 have fin:∀ s',At b s' r→FO c s'=(c,s'):=fun s' hs=>by
  unfold FO;rw [hs.chk (decide_eq_true hc0)];simp only [hs.1,ne_eq,not_true_eq_false,if_false]
 unfold ch
 rw [eH]
 simp only
 by_cases hk:c.st=0
 ·rw [if_neg (by simpa using hk)]
  rw [if_pos hk,List.nil_append] at a2
  have:=h7 hk
  have e:({ Cel.zero with st:=c.st,pr:=c.pr }:Cel)=c:=by rw [hk];exact this.symm
  rw [e,fin _ a2.2];exact ⟨rfl,a2.2⟩
 ·rw [if_pos hk]
  rw [if_neg hk] at a2
  simp only [List.append_assoc] at a2
  have a3:=a2.2.two (by omega) (by omega)
  have a4:=a3.2.cmd h8
  have a5:=a4.2.att h9
  have a6:=a5.2.flag
  have e:qwo b { Cel.zero with st:=c.st,pr:=c.pr } ((s.num b).2.two b).2=(c,((Xm b (Zc b (((s.num b).2.two b).2.two b).2).2).2.flag b).2):=by
   unfold qwo
   rw [a3.1,a6.1]
   have e4:(Zc b (((s.num b).2.two b).2.two b).2).1=c.cmd:=by rw [a4.1]
   have e5:(Xm b (Zc b (((s.num b).2.two b).2.two b).2).2).1=c.att:=by rw [a5.1]
   rw [e4,e5]
  rw [e,fin _ a6.2];exact ⟨rfl,a6.2⟩
theorem TO {i:Int×Int} {c:Cel} (hi:qN i) (hc:c.right):jG (Xe i c)=(i,c,0):=by
 have h:At (Xe i c) ⟨0,0⟩ (bF i++(qqB c++[])):=⟨rfl,Nat.zero_le _,by simp [Xe]⟩
 have a1:=h.two (by omega) (by omega)
 have a2:=a1.2.cel hc
 unfold jG
 rw [a1.1,a2.1]
 refine Lg ?_ hi
 unfold RS.fin
 have hp:¬ (ch (Xe i c) ((RS.mk 0 0).two (Xe i c)).2).2.pos < (Xe i c).length:=by
  have:=List.drop_eq_nil_iff.1 a2.2.2.2;omega
 rw [if_neg (fun h=>hp h.2)];exact a2.2.1
end Go.Fw
