import Derived.Test.YtimedjfpihdffaaGreatFxA
import Derived.Test.YtimedjfpihdffaaGreatCd
import Derived.Test.YtimedjfpihdffaaGreatBa
import Derived.Test.YtimedjfpihdffaaGreatCdL
set_option linter.unusedVariables false
set_option linter.unusedSimpArgs false
set_option maxHeartbeats 16000000
namespace Go.Fw
open Go
def zig(n:Int):Nat:=if n < 0 then (-2*n - 1).toNat else (2*n).toNat
def Ny:Nat→Nat→List UInt8
 | 0,_=>[]
 | f+1,u=>if u < 128 then [UInt8.ofNat u] else UInt8.ofNat (u % 128+128)::Ny f (u / 128)
def mw(n:Int):List UInt8:=Ny 10 (zig n)
def iH(s:ByteArray):List UInt8:=mw s.size++s.data.toList
def qyS(f:Bool):List UInt8:=if f then [1] else [0]
structure RS where
 pos:Nat
 wr:Int
theorem qQx(n:Int)(h : -9223372036854775808≤n∧n≤9223372036854775807):zig n < 2 ^ 64:=by unfold zig;split<;>omega
end Go.Fw
namespace Go.Fw
open Go.Proofs
def bk(v:Value)(b:List UInt8):List Nat:=if b=[] then [] else qG v
theorem RdB.stk{m m':Mem}{v:Value}{b:List UInt8}(h:RdB m v b)(e:∀ x∈bk v b,m' x=m x):RdB m' v b:=by
 by_cases hne:b=[]
 ·subst hne
  obtain ⟨hk,a,c,rfl,hc,_⟩:=h
  exact ⟨hk,a,c,rfl,hc,.inl rfl⟩
 ·exact h.st λx hx=>e x (by unfold bk;rw [if_neg hne];exact hx)
def qQR(t rb:Nat)(a:Option Addr)(c:Nat)(b:List UInt8)(s:RS):As where
 fp:=rb::bk (.slice a b.length c) b
 wp:=[rb]
 sub _ h:=by simp at h;simp [h]
 p m:=m rb=some (.cells [Value.slice a b.length c,.int .i64 s.pos,.int .i64 s.wr].toArray t (0,0))∧RdB m (.slice a b.length c) b∧rb∉bk (.slice a b.length c) b∧(∀ x∈bk (.slice a b.length c) b,m x≠none)∧s.pos≤b.length∧b.length≤1099511627776
 st h e:=⟨by rw [e _ (by simp)];exact h.1,RdB.stk h.2.1 λx hx=>e x (List.mem_cons_of_mem _ hx),h.2.2.1,λx hx=>by rw [e x (List.mem_cons_of_mem _ hx)];exact h.2.2.2.1 x hx,h.2.2.2.2⟩
 th h x hx:=by
  rcases List.mem_cons.1 hx with rfl | hx
  ·rw [h.1];exact Option.some_ne_none _
  ·exact h.2.2.2.1 x hx
instance {t rb:Nat} {a:Option Addr} {c:Nat} {b:List UInt8} {s:RS} {L:List As} {G:List (Nat×Obj)} [I:cj L G]:cj (qQR t rb a c b s::L) ((rb,.cells [Value.slice a b.length c,.int .i64 s.pos,.int .i64 s.wr].toArray t (0,0))::G):=⟨λm h=>⟨h.1.1,I.h m h.2⟩⟩
instance {t rb:Nat} {a:Option Addr} {c:Nat} {b:List UInt8} {s s':RS}:SameB (qQR t rb a c b s') (qQR t rb a c b s):=⟨rfl,rfl⟩
variable {t rb:Nat} {a:Option Addr} {c:Nat} {b:List UInt8} {s:RS} {m m0:Mem} {S:List Nat} {L:List As}
theorem bc_0(x:UInt8):(bc x)[0]?=some (bv x):=rfl
attribute [go_sem] bc_0
end Go.Fw
namespace Go.Fw
open Go.Proofs
variable {t rb:Nat} {a:Option Addr} {c:Nat} {b:List UInt8} {s:RS} {m m0:Mem} {S:List Nat} {L:List As}
end Go.Fw
namespace Go.Fw
open Go.Proofs
variable {m:Mem}
theorem Pm(n:Int)(h : -9223372036854775808≤n∧n≤9223372036854775807):MC Tryz.prog RX [.int .i64 n] m λv M=>v=.int .u64 ((zig n:Nat):Int)∧Fr m M []:=by
 refine MK (by simp [Tryz.f33]) ?_
 have e1:∀ M,rd (.ish .shr) [.int .i64 n,.int .u64 63] M=some (.int .i64 (if n < 0 then -1 else 0)):=λM=>by
  show (if (63:Int) < 0 then none else some (Value.int .i64 (n.fdiv (2 ^ min (63:Int).toNat 64))))=_
  rw [if_neg (by omega)]
  congr 2
  rw [Int.fdiv_eq_ediv_of_nonneg _ (by decide)]
  show n / 9223372036854775808=_
  split<;>omega
 have e2:∀ M,rd (.ish .shl) [.int .u64 (IntKind.u64.wrap n),.int .u64 1] M=some (.int .u64 ((2*n % 18446744073709551616).toNat:Nat)):=λM=>by
  show (if (1:Int) < 0 then none else some (Value.int .u64 (IntKind.u64.wrap (IntKind.u64.wrap n*2 ^ min (1:Int).toNat 64))))=_
  rw [if_neg (by omega)]
  congr 2
  show IntKind.u64.wrap (IntKind.u64.wrap n*2)=_
  simp [IntKind.wrap,IntKind.bits,IntKind.signed];omega
 by_cases h0:n < 0
 ·simp (disch:=omega) only [go_sem,undef,e1,e2,if_pos h0,show IntKind.u64.wrap (-1)=18446744073709551615 from by decide,MH (2*n % 18446744073709551616).toNat (by omega)]
  refine ⟨?_,Fr.refl _ _⟩
  congr 1
  simp only [zig,if_pos h0];omega
 ·simp (disch:=omega) only [go_sem,undef,e1,e2,if_neg h0,show IntKind.u64.wrap 0=0 from by decide,MI (2*n % 18446744073709551616).toNat (by omega)]
  refine ⟨?_,Fr.refl _ _⟩
  congr 1
  simp only [zig,if_neg h0];omega
theorem VU{v:Value}{l:List UInt8}(hv:RdB m v l)(hl:l.length≤1099511627776)(k:Nat)(hk:k≤1099511627776):CN Tryz.prog Ig [v,.int .i64 (k:Int)] m λu A=>A=byA jf u l:=by
 obtain ⟨a,c,rfl⟩:=hv.form
 refine FZ (by simp [Tryz.f33]) ?_
 have H:=Hq.refl m []
 simp (disch:=omega) only [go_sem,undef]
 refine qg H λb M f H=>?_
 have H:=H.Mf 1 0 (l.length+k) (by simp;omega) (by omega)
 simp only [Nat.zero_mul,List.take_zero] at H
 have e1:((l.length:Int)+(k:Int)).toNat=l.length+k:=by omega
 simp (disch:=omega) only [go_sem,undef,e1]
 have hv2:=hv.frame f
 refine Hd H (k:=l.length) rfl (cC hv2) (by rw [qyb];omega) (qya l) rfl (by omega) (by omega) λu M f H=>?_
 simp (disch:=omega) only [go_sem,undef]
 refine ⟨byA jf u l,rfl,?_,H.fr,λb hb=>(H.done.2.2 b hb).resolve_left (by simp)⟩
 have:=H.hs.1
 simpa using this
theorem qjG(f u:Nat):(Ny f u).length≤f:=by
 induction f generalizing u with
 | zero=>simp [Ny]
 | succ f ih=>simp only [Ny];split<;>simp;exact ih _
theorem qF(n:Int):(mw n).length≤10:=qjG _ _
theorem Cd{v:Value}{l:List UInt8}(hv:(byA jf v l).p m)(hl:l.length≤1099511627776)(n:Int)(hn : -9223372036854775808≤n∧n≤9223372036854775807):CM Tryz.prog RK [v,.int .i64 n] m (byA jf v l) λu A=>A=byA jf u (l++mw n):=by
 refine Nq (by simp [Tryz.f33]) ?_
 have H:=Hq.one hv
 simp (disch:=omega) only [go_sem,undef]
 refine qa H (Pm n hn) λM f H=>?_
 simp (disch:=omega) only [go_sem,undef]
 refine qe (λk E m'=>∃ i q done w,k=10 - i∧E=[(0,w),(5,.int .u64 (q:Nat))]∧i≤9∧q < 2 ^ (64 - 7*i)∧done.length=i∧mw n=done++Ny (10 - i) q∧Hq m m' (qG v) [byA jf w (l++done)]) 10 rfl ⟨0,zig n,[],v,rfl,rfl,by omega,by simpa using qQx n hn,rfl,rfl,by simpa using H⟩ ?_
 clear H f hv
 rintro k E m' ⟨i,q,done,w,rfl,rfl,hi,hq,hd,he,H⟩
 have hp:(2:Nat) ^ (64 - 7*i)=if i=9 then 2 else 2 ^ (64 - 7*(i+1))*128:=by
  split
  ·rename_i e;subst e;decide
  ·rw [show 64 - 7*i=(64 - 7*(i+1))+7 from by omega,Nat.pow_add]
 have hq64:q < 18446744073709551616:=Nat.lt_of_lt_of_le hq (Nat.le_trans (Nat.pow_le_pow_right (by omega) (show 64 - 7*i≤64 by omega)) (by decide))
 simp (disch:=omega) only [go_sem,undef,u64_in]
 by_cases h1:128≤q
 ·have hi9:i≠9:=by
   rintro rfl
   simp at hp;omega
  rw [if_neg hi9] at hp
  simp (disch:=omega) only [go_sem,undef,qZ,SU,qja (q % 256) (by omega)]
  refine qg H λb1 M f H=>?_
  simp (disch:=omega) only [go_sem,undef]
  refine UZ H (k:=1) rfl (zQ (l:=[_]) H.cs.1 (by simp)) rfl (by simp [Value.oneCell']) rfl (by simp;omega) (by simp;omega) λw2 M f H=>?_
  have H:=H.tail
  rw [show [Value.int IntKind.u8 ((q % 256 % 128+128:Nat):Int)].take (1*1)=bys [UInt8.ofNat (q % 128+128)] from by
   show [Value.int IntKind.u8 _]=[bv _]
   rw [← qyT _ (by omega),show q % 256 % 128=q % 128 from by omega]] at H
  have H:Hq m M (qG v) [byA jf w2 (l++(done++[UInt8.ofNat (q % 128+128)]))]:=by
   rw [← List.append_assoc,← rK];exact H
  simp (disch:=omega) only [go_sem,undef,Rq q 7 7 rfl (by omega)]
  have e10:10 - i=(10 - (i+1))+1:=by omega
  rw [e10,Ny,if_neg (by omega)] at he
  exact qK (10 - (i+1)) (by omega) ⟨i+1,q / 2 ^ 7,_,w2,rfl,rfl,by omega,by rw [hp] at hq;exact Nat.div_lt_of_lt_mul (by omega),by simp [hd],by rw [he];simp,H⟩
 ·simp (disch:=omega) only [go_sem,undef,qX,SU]
  refine qg H λb1 M f H=>?_
  simp (disch:=omega) only [go_sem,undef]
  refine UZ H (k:=1) rfl (zQ (l:=[_]) H.cs.1 (by simp)) rfl (by simp [Value.oneCell']) rfl (by simp;omega) (by simp;omega) λw2 M f H=>?_
  have H:=H.tail
  rw [show [Value.int IntKind.u8 ((q % 256:Nat):Int)].take (1*1)=bys [UInt8.ofNat q] from by
   show [Value.int IntKind.u8 _]=[bv _]
   rw [show q % 256=q from by omega,← qyT _ (by omega)]] at H
  have e10:10 - i=(10 - (i+1))+1:=by omega
  rw [e10,Ny,if_pos (by omega)] at he
  have H:Hq m M (qG v) [byA jf w2 (l++mw n)]:=by
   rw [he,← List.append_assoc,← rK];exact H
  simp (disch:=omega) only [go_sem,undef]
  exact ⟨_,rfl,H.hs.1,H.fr,λb hb=>H.done.2.2 b hb,λb hb=>H.done.2.2 b hb⟩
theorem zm{v:Value}{l:List UInt8}(hv:RdB m v l)(hl:l.length≤549755813888)(n:Int)(hn : -9223372036854775808≤n∧n≤9223372036854775807):CN Tryz.prog RW [v,.int .i64 n] m λu A=>A=byA jf u (l++mw n):=by
 refine Nk (by simp [Tryz.f33]) ?_
 have H:=Hq.refl m []
 simp (disch:=omega) only [go_sem,undef]
 refine yw H (VU hv (by omega) 10 (by omega)) λu M A' eA f H=>?_
 subst eA
 simp (disch:=omega) only [go_sem,undef]
 refine zW H (Cd (H.at 0 rfl) (by omega) n hn) λu M A' eA f H=>?_
 subst eA
 simp (disch:=omega) only [go_sem,undef]
 exact ⟨_,rfl,H.hs.1,H.fr,λb hb=>(H.done.2.2 b hb).resolve_left (by simp)⟩
theorem ei{v:Value}{l:List UInt8}(hv:RdB m v l)(hl:l.length≤549755813888)(s:ByteArray)(hs:s.size≤549755813888):CN Tryz.prog NJ [v,.string s] m λu A=>A=byA jf u (l++iH s):=by
 refine IJ (by simp [Tryz.f33]) ?_
 have H:=Hq.refl m []
 have hn:=qF s.size
 simp (disch:=omega) only [go_sem,undef]
 refine yw H (VU hv (by omega) (10+s.size) (by omega)) λu M A' eA f H=>?_
 subst eA
 simp (disch:=omega) only [go_sem,undef]
 refine zW H (Cd (H.at 0 rfl) (by omega) s.size (by omega)) λu M A' eA f H=>?_
 subst eA
 simp (disch:=omega) only [go_sem,undef]
 refine apsQ0 H (by rw [List.length_append];omega) λu M f H=>?_
 rw [qkR,show s.size=s.data.toList.length from rfl,rK] at H
 simp (disch:=omega) only [go_sem,undef]
 exact ⟨byA jf u (l++iH s),rfl,by rw [iH,← List.append_assoc];exact H.hs.1,H.fr,λb hb=>(H.done.2.2 b hb).resolve_left (by simp)⟩
theorem eo{v:Value}{l:List UInt8}(hv:RdB m v l)(hl:l.length≤549755813888)(x:Bool):CN Tryz.prog NX [v,.bool x] m λu A=>A=byA jf u (l++qyS x):=by
 refine IY (by simp [Tryz.f33]) ?_
 have H:=Hq.refl m []
 cases x
 ·simp (disch:=omega) only [go_sem,undef]
  refine yw H (VU hv (by omega) 1 (by omega)) λu M A' eA f H=>?_
  subst eA
  simp (disch:=omega) only [go_sem,undef]
  refine qg H λb1 M f H=>?_
  simp (disch:=omega) only [go_sem,undef]
  refine UZ H (k:=1) rfl (zQ (l:=[_]) H.cs.1 (by simp)) rfl (by simp [Value.oneCell']) rfl (by omega) (by omega) λw2 M f H=>?_
  have H:=H.tail
  rw [show [Value.int IntKind.u8 0].take (1*1)=bys [0] from rfl,show l.length+1=l.length+[(0:UInt8)].length from rfl,rK] at H
  simp (disch:=omega) only [go_sem,undef]
  exact ⟨_,rfl,H.hs.1,H.fr,λb hb=>(H.done.2.2 b hb).resolve_left (by simp)⟩
 ·simp (disch:=omega) only [go_sem,undef]
  refine yw H (VU hv (by omega) 1 (by omega)) λu M A' eA f H=>?_
  subst eA
  simp (disch:=omega) only [go_sem,undef]
  refine qg H λb1 M f H=>?_
  simp (disch:=omega) only [go_sem,undef]
  refine UZ H (k:=1) rfl (zQ (l:=[_]) H.cs.1 (by simp)) rfl (by simp [Value.oneCell']) rfl (by omega) (by omega) λw2 M f H=>?_
  have H:=H.tail
  rw [show [Value.int IntKind.u8 1].take (1*1)=bys [1] from rfl,show l.length+1=l.length+[(1:UInt8)].length from rfl,rK] at H
  simp (disch:=omega) only [go_sem,undef]
  exact ⟨_,rfl,H.hs.1,H.fr,λb hb=>(H.done.2.2 b hb).resolve_left (by simp)⟩
end Go.Fw
namespace Go.Fw
open Go
def qJi(c:Cmd):List UInt8:=if c.kind=2 then iH c.val else if c.kind=4 then iH c.old++iH c.val else if c.kind=5 then iH c.fin else []
def qxL(c:Cmd):List UInt8:=mw c.kind++if c.kind=0 then [] else mw c.client++(mw c.seq++(iH c.key++qJi c))
def gq(d:Dp):Nat→List UInt8
 | 0=>[]
 | k+1=>gq d k++mw (d.g k)
def qkQ(a:Att):List UInt8:=mw a.seq++gq a.deps 7
def ub(p:Int×Int):List UInt8:=mw p.1++mw p.2
def qJm(c:Cel):List UInt8:=mw c.st++(ub c.pr++if c.st=0 then [] else ub c.vo++(qxL c.cmd++(qkQ c.att++qyS c.same)))
def lI(i:Int×Int)(c:Cel):List UInt8:=ub i++qJm c
end Go.Fw
namespace Go.Fw
open Go.Proofs
variable {t rb:Nat} {a:Option Addr} {c:Nat} {b:List UInt8} {s:RS} {m m0:Mem} {S:List Nat} {L:List As}
end Go.Fw
namespace Go.Fw
open Go.Proofs
variable {m:Mem}
theorem jp(s:ByteArray):(iH s).length≤10+s.size:=by
 have:=qF s.size
 rw [iH,List.length_append]
 have:s.data.toList.length=s.size:=rfl
 omega
theorem Es{T:TypeId}{u:Value}{l l':List UInt8}{m M:Mem}{L:List As}(H:Hq m M [] (byA T u l::L))(e:l=l'):∃ A',A'=byA T u l'∧A'.p M∧Fr m M []∧∀ b∈A'.fp,m b=none:=by
 subst e
 exact ⟨_,rfl,H.hs.1,H.fr,λb hb=>(H.done.2.2 b hb).resolve_left (by simp)⟩
theorem Eb{c:Cmd}(h:c.right):0≤c.kind∧c.kind≤5∧0≤c.client∧c.client≤8∧0≤c.seq∧c.seq≤1099511627776∧c.key.size≤16∧c.fin.size≤16∧c.old.size≤64∧c.val.size≤64:=by
 rcases h with rfl | h
 ·simp [Cmd.zero,ByteArray.size]
 ·omega
theorem tn{v:Value}{l:List UInt8}(hv:RdB m v l)(hl:l.length≤100000)(c:Cmd)(hc:c.right):CN Tryz.prog qqY [v,c.v] m λu A=>A=byA jf u (l++qxL c):=by
 obtain ⟨h1,h2,h3,h4,h5,h6,h7,h8,h9,h10⟩:=Eb hc
 refine Sg (by simp [Tryz.f33]) ?_
 have H:=Hq.refl m []
 simp (disch:=omega) only [go_sem,undef]
 repeat' (first
  | ((first
   | (with_reducible first
    | refine qg H λ_ _ f H2=>?_
    | refine xK H λ_ f H2=>?_
    | refine cQ H λ_ f H2=>?_
    | refine Wy H λ_ f H2=>?_
    | refine eX H λ_ f H2=>?_
    | refine eJ H λ_ f H2=>?_
    | refine eZ H λ_ f H2=>?_
    | refine qa H (xv _ _) λ_ f H2=>?_)
   | ((with_reducible refine qs H ?hl ?h1 λ_ f H2=>?_);(case hl=>rfl);(case h1=>rfl))
   | ((with_reducible refine zA H ?hl ?h1 λ_ f H2=>?_);(case hl=>rfl);(case h1=>rfl))
   | ((with_reducible refine ZB H ?hl ?h1 λ_ f H2=>?_);(case hl=>rfl);(case h1=>rfl))
   | ((with_reducible refine XT H ?hl ?h1 λ_ f H2=>?_);(case hl=>rfl);(case h1=>rfl))
   | ((with_reducible refine XS H ?hl ?h1 λ_ f H2=>?_);(case hl=>rfl);(case h1=>rfl))
   | ((with_reducible refine XR H ?hl ?h1 λ_ f H2=>?_);(case hl=>rfl);(case h1=>rfl))
   | ((with_reducible refine cV H ?hl ?h1 λ_ f H2=>?_);(case hl=>exact Nat.le_of_ble_eq_true rfl);(case h1=>rfl);(simp only [go_sem] at H2))
   | ((with_reducible refine cK H ?hl ?h1 λ_ f H2=>?_);(case hl=>exact Nat.le_of_ble_eq_true rfl);(case h1=>rfl);(simp only [go_sem] at H2))
   | ((with_reducible refine eV H ?hl ?h1 λ_ f H2=>?_);(case hl=>exact Nat.le_of_ble_eq_true rfl);(case h1=>rfl);(simp only [go_sem] at H2))
   | ((with_reducible refine eK H ?hl ?h1 λ_ f H2=>?_);(case hl=>exact Nat.le_of_ble_eq_true rfl);(case h1=>rfl);(simp only [go_sem] at H2))
   | ((with_reducible refine tN0 H (λh=>zm (zF h) (by grind [qF,jp,List.length_append]) _ (by omega)) λ_ _ _ e f H2=>?_);subst e)
   | ((with_reducible refine tN1 H (λh=>zm (zF h) (by grind [qF,jp,List.length_append]) _ (by omega)) λ_ _ _ e f H2=>?_);subst e)
   | ((with_reducible refine tN2 H (λh=>zm (zF h) (by grind [qF,jp,List.length_append]) _ (by omega)) λ_ _ _ e f H2=>?_);subst e)
   | ((with_reducible refine yw H (zm (hv.frame H.fr) (by omega) _ (by omega)) λ_ _ _ e f H2=>?_);subst e)
   | ((with_reducible refine tN0 H (λh=>ei (zF h) (by grind [qF,jp,List.length_append]) _ (by omega)) λ_ _ _ e f H2=>?_);subst e)
   | ((with_reducible refine tN1 H (λh=>ei (zF h) (by grind [qF,jp,List.length_append]) _ (by omega)) λ_ _ _ e f H2=>?_);subst e)
   | ((with_reducible refine tN2 H (λh=>ei (zF h) (by grind [qF,jp,List.length_append]) _ (by omega)) λ_ _ _ e f H2=>?_);subst e));clear f;clear H;have H:=H2;clear H2;simp (disch:=omega) only [go_sem,undef,H.cs, *,decide_eq_true hc])
  | ((with_reducible refine qE (λhq=>?_) (λhq=>?_))<;>(try simp only [Bool.not_true,Bool.not_false] at hq)<;>simp (disch:=omega) only [go_sem,undef,H.cs, *,decide_eq_true hc])
  | ((with_reducible refine ql (λhq=>?_) (λhq=>?_))<;>simp (disch:=omega) only [go_sem,undef,H.cs, *,decide_eq_true hc]))
 all_goals (simp only [decide_eq_true_eq,decide_eq_false_iff_not] at *)
 all_goals first
  | exact Xh (Es H (by simp [qxL,qJi, *]))
  | (exfalso;omega)
theorem mM{v:Value}{l:List UInt8}(hv:RdB m v l)(hl:l.length≤100000)(a:Att)(ha:xC a):CN Tryz.prog RY [v,a.v] m λu A=>A=byA jf u (l++qkQ a):=by
 refine Oy (by simp [Tryz.f33]) ?_
 have H:=Hq.refl m []
 have hs:=ha.2
 have hd:∀ k,k < 7→0≤a.deps.g k∧a.deps.g k≤1073741824:=λk hk=>by rw [Dp.g_lt _ hk];exact ha.1 _
 simp (disch:=omega) only [go_sem,undef]
 refine qg H λb1 _ _ H=>?_
 simp (disch:=omega) only [go_sem,undef,H.cs]
 refine yw H (zm (hv.frame H.fr) (by omega) _ (by omega)) λu M A' e f H=>?_
 subst e
 simp (disch:=omega) only [go_sem,undef,H.cs]
 refine qe (λn E m'=>∃ k u,k≤7∧n=7 - k∧E=[(0,u),(12,.agg (dv a.deps).toArray),(13,.int .i64 (k:Nat))]∧(gq a.deps k).length≤10*k∧Hq m m' [] [byA jf u (l++mw a.seq++gq a.deps k)]) 7 rfl ⟨0,u,by omega,rfl,rfl,by simp [gq],by simpa [gq] using qxr H⟩ ?_
 clear H f
 rintro n E m' ⟨k,u,hk,rfl,rfl,hlen,H⟩
 simp (disch:=omega) only [go_sem,undef]
 have hn:=qF a.seq
 refine bT (λh1=>?_) (λh1=>?_)
 ·have h2:k < 7:=by omega
  have h3:=hd k h2
  have h4:=qF (a.deps.g k)
  simp (disch:=omega) only [go_sem,undef]
  refine tN0 H (λh=>zm (zF h) (by simp only [List.length_append];omega) _ (by omega)) λu2 M A' e f H=>?_
  subst e
  simp (disch:=omega) only [go_sem,undef]
  exact qK (7 - (k+1)) (by omega) ⟨k+1,u2,by omega,rfl,rfl,by simp only [gq,List.length_append];omega,by simpa [gq] using qxr H⟩
 ·have h2:k=7:=by omega
  subst h2
  simp (disch:=omega) only [go_sem,undef]
  exact Es H (by simp [qkQ])
theorem Ep{v:Value}{l:List UInt8}(hv:RdB m v l)(hl:l.length≤100000)(p:Int×Int)(hp:(-9223372036854775808≤p.1∧p.1≤9223372036854775807)∧-9223372036854775808≤p.2∧p.2≤9223372036854775807):CN Tryz.prog uh [v,pv p] m λu A=>A=byA jf u (l++ub p):=by
 refine sf (by simp [Tryz.f33]) ?_
 have H:=Hq.refl m []
 simp (disch:=omega) only [go_sem,undef]
 repeat' (first
  | ((first
   | (with_reducible first
    | refine qg H λ_ _ f H2=>?_
    | refine xK H λ_ f H2=>?_
    | refine cQ H λ_ f H2=>?_
    | refine Wy H λ_ f H2=>?_
    | refine eX H λ_ f H2=>?_
    | refine eJ H λ_ f H2=>?_
    | refine eZ H λ_ f H2=>?_)
   | ((with_reducible refine qs H ?hl ?h1 λ_ f H2=>?_);(case hl=>rfl);(case h1=>rfl))
   | ((with_reducible refine zA H ?hl ?h1 λ_ f H2=>?_);(case hl=>rfl);(case h1=>rfl))
   | ((with_reducible refine ZB H ?hl ?h1 λ_ f H2=>?_);(case hl=>rfl);(case h1=>rfl))
   | ((with_reducible refine XT H ?hl ?h1 λ_ f H2=>?_);(case hl=>rfl);(case h1=>rfl))
   | ((with_reducible refine XS H ?hl ?h1 λ_ f H2=>?_);(case hl=>rfl);(case h1=>rfl))
   | ((with_reducible refine XR H ?hl ?h1 λ_ f H2=>?_);(case hl=>rfl);(case h1=>rfl))
   | ((with_reducible refine cV H ?hl ?h1 λ_ f H2=>?_);(case hl=>exact Nat.le_of_ble_eq_true rfl);(case h1=>rfl);(simp only [go_sem] at H2))
   | ((with_reducible refine cK H ?hl ?h1 λ_ f H2=>?_);(case hl=>exact Nat.le_of_ble_eq_true rfl);(case h1=>rfl);(simp only [go_sem] at H2))
   | ((with_reducible refine eV H ?hl ?h1 λ_ f H2=>?_);(case hl=>exact Nat.le_of_ble_eq_true rfl);(case h1=>rfl);(simp only [go_sem] at H2))
   | ((with_reducible refine eK H ?hl ?h1 λ_ f H2=>?_);(case hl=>exact Nat.le_of_ble_eq_true rfl);(case h1=>rfl);(simp only [go_sem] at H2))
   | ((with_reducible refine tN0 H (λh=>zm (zF h) (by grind [qF,jp,List.length_append]) _ (by omega)) λ_ _ _ e f H2=>?_);subst e)
   | ((with_reducible refine tN1 H (λh=>zm (zF h) (by grind [qF,jp,List.length_append]) _ (by omega)) λ_ _ _ e f H2=>?_);subst e)
   | ((with_reducible refine tN2 H (λh=>zm (zF h) (by grind [qF,jp,List.length_append]) _ (by omega)) λ_ _ _ e f H2=>?_);subst e)
   | ((with_reducible refine yw H (zm (hv.frame H.fr) (by omega) _ (by omega)) λ_ _ _ e f H2=>?_);subst e));clear f;clear H;have H:=H2;clear H2;simp (disch:=omega) only [go_sem,undef,H.cs, *])
  | ((with_reducible refine qE (λhq=>?_) (λhq=>?_))<;>(try simp only [Bool.not_true,Bool.not_false] at hq)<;>simp (disch:=omega) only [go_sem,undef,H.cs, *])
  | ((with_reducible refine ql (λhq=>?_) (λhq=>?_))<;>simp (disch:=omega) only [go_sem,undef,H.cs, *]))
 exact Xh (Es H (by simp [ub]))
theorem HK(d:Dp):∀ k,(gq d k).length≤10*k
 | 0=>by simp [gq]
 | k+1=>by
  have:=HK d k
  have:=qF (d.g k)
  simp only [gq,List.length_append];omega
theorem zD{c:Cmd}(h:c.right):(qxL c).length≤300:=by
 obtain ⟨h1,h2,h3,h4,h5,h6,h7,h8,h9,h10⟩:=Eb h
 have:=qF c.kind
 have:=qF c.client
 have:=qF c.seq
 have:=jp c.key
 have:=jp c.fin
 have:=jp c.old
 have:=jp c.val
 unfold qxL qJi
 split
 ·simp;omega
 ·split
  ·simp only [List.length_append];omega
  ·split
   ·simp only [List.length_append];omega
   ·split<;>simp only [List.length_append,List.length_nil]<;>omega
theorem zb(p:Int×Int):(ub p).length≤20:=by
 have:=qF p.1
 have:=qF p.2
 simp only [ub,List.length_append];omega
theorem zN(a:Att):(qkQ a).length≤80:=by
 have:=qF a.seq
 have:=HK a.deps 7
 simp only [qkQ,List.length_append];omega
theorem Xm{v:Value}{l:List UInt8}(hv:RdB m v l)(hl:l.length≤10000)(c:Cel)(hc:c.right):CN Tryz.prog rE [v,c.v] m λu A=>A=byA jf u (l++qJm c):=by
 have hc0:=hc
 obtain ⟨h1,h2,h3,h4,_,_,_,h5,h6⟩:=hc
 have:=zD h5
 refine og (by simp [Tryz.f33]) ?_
 have H:=Hq.refl m []
 simp (disch:=omega) only [go_sem,undef]
 repeat' (first
  | ((first
   | (with_reducible first
    | refine qg H λ_ _ f H2=>?_
    | refine xK H λ_ f H2=>?_
    | refine cQ H λ_ f H2=>?_
    | refine Wy H λ_ f H2=>?_
    | refine eX H λ_ f H2=>?_
    | refine eJ H λ_ f H2=>?_
    | refine eZ H λ_ f H2=>?_
    | refine qa H (QT _ _) λ_ f H2=>?_)
   | ((with_reducible refine qs H ?hl ?h1 λ_ f H2=>?_);(case hl=>rfl);(case h1=>rfl))
   | ((with_reducible refine zA H ?hl ?h1 λ_ f H2=>?_);(case hl=>rfl);(case h1=>rfl))
   | ((with_reducible refine ZB H ?hl ?h1 λ_ f H2=>?_);(case hl=>rfl);(case h1=>rfl))
   | ((with_reducible refine XT H ?hl ?h1 λ_ f H2=>?_);(case hl=>rfl);(case h1=>rfl))
   | ((with_reducible refine XS H ?hl ?h1 λ_ f H2=>?_);(case hl=>rfl);(case h1=>rfl))
   | ((with_reducible refine XR H ?hl ?h1 λ_ f H2=>?_);(case hl=>rfl);(case h1=>rfl))
   | ((with_reducible refine cV H ?hl ?h1 λ_ f H2=>?_);(case hl=>exact Nat.le_of_ble_eq_true rfl);(case h1=>rfl);(simp only [go_sem] at H2))
   | ((with_reducible refine cK H ?hl ?h1 λ_ f H2=>?_);(case hl=>exact Nat.le_of_ble_eq_true rfl);(case h1=>rfl);(simp only [go_sem] at H2))
   | ((with_reducible refine eV H ?hl ?h1 λ_ f H2=>?_);(case hl=>exact Nat.le_of_ble_eq_true rfl);(case h1=>rfl);(simp only [go_sem] at H2))
   | ((with_reducible refine eK H ?hl ?h1 λ_ f H2=>?_);(case hl=>exact Nat.le_of_ble_eq_true rfl);(case h1=>rfl);(simp only [go_sem] at H2))
   | ((with_reducible refine yw H (zm (hv.frame H.fr) (by omega) _ (by omega)) λ_ _ _ e f H2=>?_);subst e)
   | ((with_reducible refine tN0 H (λh=>Ep (zF h) (by grind [qF,zb,zD,zN,List.length_append]) _ (by omega)) λ_ _ _ e f H2=>?_);subst e)
   | ((with_reducible refine tN1 H (λh=>Ep (zF h) (by grind [qF,zb,zD,zN,List.length_append]) _ (by omega)) λ_ _ _ e f H2=>?_);subst e)
   | ((with_reducible refine tN2 H (λh=>Ep (zF h) (by grind [qF,zb,zD,zN,List.length_append]) _ (by omega)) λ_ _ _ e f H2=>?_);subst e)
   | ((with_reducible refine tN0 H (λh=>tn (zF h) (by grind [qF,zb,zD,zN,List.length_append]) _ h5) λ_ _ _ e f H2=>?_);subst e)
   | ((with_reducible refine tN1 H (λh=>tn (zF h) (by grind [qF,zb,zD,zN,List.length_append]) _ h5) λ_ _ _ e f H2=>?_);subst e)
   | ((with_reducible refine tN2 H (λh=>tn (zF h) (by grind [qF,zb,zD,zN,List.length_append]) _ h5) λ_ _ _ e f H2=>?_);subst e)
   | ((with_reducible refine tN0 H (λh=>mM (zF h) (by grind [qF,zb,zD,zN,List.length_append]) _ h6) λ_ _ _ e f H2=>?_);subst e)
   | ((with_reducible refine tN1 H (λh=>mM (zF h) (by grind [qF,zb,zD,zN,List.length_append]) _ h6) λ_ _ _ e f H2=>?_);subst e)
   | ((with_reducible refine tN2 H (λh=>mM (zF h) (by grind [qF,zb,zD,zN,List.length_append]) _ h6) λ_ _ _ e f H2=>?_);subst e)
   | ((with_reducible refine tN0 H (λh=>eo (zF h) (by grind [qF,zb,zD,zN,List.length_append]) _) λ_ _ _ e f H2=>?_);subst e)
   | ((with_reducible refine tN1 H (λh=>eo (zF h) (by grind [qF,zb,zD,zN,List.length_append]) _) λ_ _ _ e f H2=>?_);subst e)
   | ((with_reducible refine tN2 H (λh=>eo (zF h) (by grind [qF,zb,zD,zN,List.length_append]) _) λ_ _ _ e f H2=>?_);subst e));clear f;clear H;have H:=H2;clear H2;simp (disch:=omega) only [go_sem,undef,H.cs, *,decide_eq_true hc0])
  | ((with_reducible refine qE (λhq=>?_) (λhq=>?_))<;>(try simp only [Bool.not_true,Bool.not_false] at hq)<;>simp (disch:=omega) only [go_sem,undef,H.cs, *,decide_eq_true hc0])
  | ((with_reducible refine ql (λhq=>?_) (λhq=>?_))<;>simp (disch:=omega) only [go_sem,undef,H.cs, *,decide_eq_true hc0]))
 all_goals (simp only [decide_eq_true_eq,decide_eq_false_iff_not] at *)
 all_goals exact Xh (Es H (by
  rw [qJm]
  first
   | rw [if_pos hq]
   | rw [if_neg hq]
  simp only [List.append_assoc,List.append_nil]))
theorem Iu(i:Int×Int)(hi:(-9223372036854775808≤i.1∧i.1≤9223372036854775807)∧-9223372036854775808≤i.2∧i.2≤9223372036854775807)(c:Cel)(hc:c.right):CN Tryz.prog Ih [pv i,c.v] m λu A=>A=byA jf u (lI i c):=by
 refine Fg (Nat.le_of_ble_eq_true rfl) ?_
 have H:=Hq.refl m []
 simp (disch:=omega) only [go_sem,undef]
 repeat' (first
  | ((first
   | (with_reducible first
    | refine qg H λ_ _ f H2=>?_
    | refine xK H λ_ f H2=>?_
    | refine cQ H λ_ f H2=>?_
    | refine Wy H λ_ f H2=>?_
    | refine eX H λ_ f H2=>?_
    | refine eJ H λ_ f H2=>?_
    | refine eZ H λ_ f H2=>?_)
   | ((with_reducible refine qs H ?hl ?h1 λ_ f H2=>?_);(case hl=>rfl);(case h1=>rfl))
   | ((with_reducible refine zA H ?hl ?h1 λ_ f H2=>?_);(case hl=>rfl);(case h1=>rfl))
   | ((with_reducible refine ZB H ?hl ?h1 λ_ f H2=>?_);(case hl=>rfl);(case h1=>rfl))
   | ((with_reducible refine XT H ?hl ?h1 λ_ f H2=>?_);(case hl=>rfl);(case h1=>rfl))
   | ((with_reducible refine XS H ?hl ?h1 λ_ f H2=>?_);(case hl=>rfl);(case h1=>rfl))
   | ((with_reducible refine XR H ?hl ?h1 λ_ f H2=>?_);(case hl=>rfl);(case h1=>rfl))
   | ((with_reducible refine cV H ?hl ?h1 λ_ f H2=>?_);(case hl=>exact Nat.le_of_ble_eq_true rfl);(case h1=>rfl);(simp only [go_sem] at H2))
   | ((with_reducible refine cK H ?hl ?h1 λ_ f H2=>?_);(case hl=>exact Nat.le_of_ble_eq_true rfl);(case h1=>rfl);(simp only [go_sem] at H2))
   | ((with_reducible refine eV H ?hl ?h1 λ_ f H2=>?_);(case hl=>exact Nat.le_of_ble_eq_true rfl);(case h1=>rfl);(simp only [go_sem] at H2))
   | ((with_reducible refine eK H ?hl ?h1 λ_ f H2=>?_);(case hl=>exact Nat.le_of_ble_eq_true rfl);(case h1=>rfl);(simp only [go_sem] at H2))
   | ((with_reducible refine yw H (zm (RdS.nil qkx _) (by simp) _ (by omega)) λ_ _ _ e f H2=>?_);subst e)
   | ((with_reducible refine tN0 H (λh=>zm (zF h) (by grind [qF,zb,zD,zN,List.length_append,List.length_nil]) _ (by omega)) λ_ _ _ e f H2=>?_);subst e)
   | ((with_reducible refine tN1 H (λh=>zm (zF h) (by grind [qF,zb,zD,zN,List.length_append,List.length_nil]) _ (by omega)) λ_ _ _ e f H2=>?_);subst e)
   | ((with_reducible refine tN2 H (λh=>zm (zF h) (by grind [qF,zb,zD,zN,List.length_append,List.length_nil]) _ (by omega)) λ_ _ _ e f H2=>?_);subst e)
   | ((with_reducible refine tN0 H (λh=>Xm (zF h) (by grind [qF,zb,zD,zN,List.length_append,List.length_nil]) _ hc) λ_ _ _ e f H2=>?_);subst e)
   | ((with_reducible refine tN1 H (λh=>Xm (zF h) (by grind [qF,zb,zD,zN,List.length_append,List.length_nil]) _ hc) λ_ _ _ e f H2=>?_);subst e)
   | ((with_reducible refine tN2 H (λh=>Xm (zF h) (by grind [qF,zb,zD,zN,List.length_append,List.length_nil]) _ hc) λ_ _ _ e f H2=>?_);subst e));clear f;clear H;have H:=H2;clear H2;simp (disch:=omega) only [go_sem,undef,H.cs, *])
  | ((with_reducible refine qE (λhq=>?_) (λhq=>?_))<;>(try simp only [Bool.not_true,Bool.not_false] at hq)<;>simp (disch:=omega) only [go_sem,undef,H.cs, *])
  | ((with_reducible refine ql (λhq=>?_) (λhq=>?_))<;>simp (disch:=omega) only [go_sem,undef,H.cs, *]))
 exact Xh (Es H (by simp [lI,ub]))
end Go.Fw
namespace Go.Fw
open Go.Proofs
variable {m:Mem}
end Go.Fw
namespace Go.Fw
open Go
end Go.Fw
