import Derived.Test.YtimedjfpihdffaaGreatCoY
import Derived.Test.YtimedjfpihdffaaGreatPk
import Derived.Test.YtimedjfpihdffaaGreatCdK
set_option linter.unusedVariables false
set_option linter.unusedSimpArgs false
set_option maxHeartbeats 16000000
namespace Go.Fw
open Go
structure LdC where
 id:Int×Int
 way:Int
 bal:Int×Int
 first:Bool
 cmd:Cmd
 att:Att
 ans:Dp
 rp:Value
 sd:Value
 count:Int
 ticks:Int
def LdC.cs(a:LdC):List Value:=pc a.id++([.int .i64 a.way]++(pc a.bal++([.bool a.first]++(a.cmd.cs++(a.att.cs++(dv a.ans++([a.rp]++([a.sd]++([.int .i64 a.count]++([.int .i64 a.ticks]))))))))))
theorem LdC.len(a:LdC):a.cs.length=32:=rfl
theorem LdC.all(a:LdC):a.cs.take 32=a.cs:=rfl
theorem LdC.KA(a:LdC):(a.cs.drop 0).take 32=a.cs:=rfl
theorem LdC.vO(a:LdC):lay a.cs [] []=some a.cs:=rfl
theorem LdC.Wg(a b:LdC):lay a.cs [(0,32)] [.agg b.cs.toArray]=some b.cs:=rfl
theorem LdC.g0(a:LdC):a.cs[0]?=some (.int .i64 a.id.1):=rfl
theorem LdC.g1(a:LdC):a.cs[1]?=some (.int .i64 a.id.2):=rfl
theorem LdC.s0(a:LdC)(x:Int):a.cs.set 0 (.int .i64 x)=({ a with id:=(x,a.id.2) }:LdC).cs:=rfl
theorem LdC.s1(a:LdC)(x:Int):a.cs.set 1 (.int .i64 x)=({ a with id:=(a.id.1,x) }:LdC).cs:=rfl
theorem LdC.PB(a:LdC):(a.cs.drop 0).take 2=pc a.id:=rfl
theorem LdC.qzr(a:LdC):a.cs.take 2=pc a.id:=rfl
theorem LdC.Rk(a:LdC)(x:Int×Int):pc x++a.cs.drop 2=({ a with id:=x }:LdC).cs:=rfl
theorem LdC.g2(a:LdC):a.cs[2]?=some (.int .i64 a.way):=rfl
theorem LdC.s2(a:LdC)(x:Int):a.cs.set 2 (.int .i64 x)=({ a with way:=x }:LdC).cs:=rfl
theorem LdC.g3(a:LdC):a.cs[3]?=some (.int .i64 a.bal.1):=rfl
theorem LdC.g4(a:LdC):a.cs[4]?=some (.int .i64 a.bal.2):=rfl
theorem LdC.s3(a:LdC)(x:Int):a.cs.set 3 (.int .i64 x)=({ a with bal:=(x,a.bal.2) }:LdC).cs:=rfl
theorem LdC.s4(a:LdC)(x:Int):a.cs.set 4 (.int .i64 x)=({ a with bal:=(a.bal.1,x) }:LdC).cs:=rfl
theorem LdC.HE(a:LdC):(a.cs.drop 3).take 2=pc a.bal:=rfl
theorem LdC.Ix(a:LdC)(x:Int×Int):a.cs.take 3++(pc x++a.cs.drop 5)=({ a with bal:=x }:LdC).cs:=rfl
theorem LdC.g5(a:LdC):a.cs[5]?=some (.bool a.first):=rfl
theorem LdC.s5(a:LdC)(x:Bool):a.cs.set 5 (.bool x)=({ a with first:=x }:LdC).cs:=rfl
theorem LdC.g6(a:LdC):a.cs[6]?=some (.int .i64 a.cmd.kind):=rfl
theorem LdC.g7(a:LdC):a.cs[7]?=some (.int .i64 a.cmd.client):=rfl
theorem LdC.g8(a:LdC):a.cs[8]?=some (.int .i64 a.cmd.seq):=rfl
theorem LdC.g9(a:LdC):a.cs[9]?=some (.string a.cmd.key):=rfl
theorem LdC.g10(a:LdC):a.cs[10]?=some (.string a.cmd.fin):=rfl
theorem LdC.g11(a:LdC):a.cs[11]?=some (.string a.cmd.old):=rfl
theorem LdC.g12(a:LdC):a.cs[12]?=some (.string a.cmd.val):=rfl
theorem LdC.Qg(a:LdC):(a.cs.drop 6).take 7=a.cmd.cs:=rfl
theorem LdC.VS(a:LdC)(x:Cmd):a.cs.take 6++(x.cs++a.cs.drop 13)=({ a with cmd:=x }:LdC).cs:=rfl
theorem LdC.g13(a:LdC):a.cs[13]?=some (.int .i64 a.att.seq):=rfl
theorem LdC.Ya(a:LdC):(a.cs.drop 13).take 8=a.att.cs:=rfl
theorem LdC.nN(a:LdC)(x:Att):a.cs.take 13++(x.cs++a.cs.drop 21)=({ a with att:=x }:LdC).cs:=rfl
theorem LdC.qkP(a:LdC):(a.cs.drop 21).take 7=dv a.ans:=rfl
theorem LdC.qvu(a:LdC)(x:Dp):a.cs.take 21++(dv x++a.cs.drop 28)=({ a with ans:=x }:LdC).cs:=rfl
theorem LdC.qZS(a:LdC)(k:Nat)(h:k < 7):a.cs[21+k]?=some (.int .i64 (a.ans.g k)):=by
 match k,h with
 | 0,_ | 1,_ | 2,_ | 3,_ | 4,_ | 5,_ | 6,_=>rfl
theorem LdC.qQG(a:LdC)(k:Nat)(x:Int)(h:k < 7):a.cs.set (21+k) (.int .i64 x)=({ a with ans:=Dp.up a.ans k x }:LdC).cs:=by
 match k,h with
 | 0,_ | 1,_ | 2,_ | 3,_ | 4,_ | 5,_ | 6,_=>rfl
theorem LdC.g28(a:LdC):a.cs[28]?=some (a.rp):=rfl
theorem LdC.s28(a:LdC)(x:Value):a.cs.set 28 (x)=({ a with rp:=x }:LdC).cs:=rfl
theorem LdC.g29(a:LdC):a.cs[29]?=some (a.sd):=rfl
theorem LdC.s29(a:LdC)(x:Value):a.cs.set 29 (x)=({ a with sd:=x }:LdC).cs:=rfl
theorem LdC.g30(a:LdC):a.cs[30]?=some (.int .i64 a.count):=rfl
theorem LdC.s30(a:LdC)(x:Int):a.cs.set 30 (.int .i64 x)=({ a with count:=x }:LdC).cs:=rfl
theorem LdC.g31(a:LdC):a.cs[31]?=some (.int .i64 a.ticks):=rfl
theorem LdC.s31(a:LdC)(x:Int):a.cs.set 31 (.int .i64 x)=({ a with ticks:=x }:LdC).cs:=rfl
abbrev LdC.zero:LdC:=⟨(0,0),0,(0,0),false,Cmd.zero,Att.zero,Dp.zero,.slice none 0 0,.slice none 0 0,0,0⟩
theorem qJR:Value.agg (List.toArray [.int .i64 0,.int .i64 0,.int .i64 0,.int .i64 0,.int .i64 0,.bool false,.int .i64 0,.int .i64 0,.int .i64 0,.string noB,.string noB,.string noB,.string noB,.int .i64 0,.int .i64 0,.int .i64 0,.int .i64 0,.int .i64 0,.int .i64 0,.int .i64 0,.int .i64 0,.int .i64 0,.int .i64 0,.int .i64 0,.int .i64 0,.int .i64 0,.int .i64 0,.int .i64 0,.slice none 0 0,.slice none 0 0,.int .i64 0,.int .i64 0])=.agg (LdC.zero.cs).toArray:=rfl
theorem qJO(ps:List (Nat×Nat))(vs:List Value):lay [.int .i64 0,.int .i64 0,.int .i64 0,.int .i64 0,.int .i64 0,.bool false,.int .i64 0,.int .i64 0,.int .i64 0,.string noB,.string noB,.string noB,.string noB,.int .i64 0,.int .i64 0,.int .i64 0,.int .i64 0,.int .i64 0,.int .i64 0,.int .i64 0,.int .i64 0,.int .i64 0,.int .i64 0,.int .i64 0,.int .i64 0,.int .i64 0,.int .i64 0,.int .i64 0,.slice none 0 0,.slice none 0 0,.int .i64 0,.int .i64 0] ps vs=lay (LdC.zero.cs) ps vs:=rfl
theorem qJP(t:TypeId)(fr:Nat×Nat):Obj.cells (List.toArray [.int .i64 0,.int .i64 0,.int .i64 0,.int .i64 0,.int .i64 0,.bool false,.int .i64 0,.int .i64 0,.int .i64 0,.string noB,.string noB,.string noB,.string noB,.int .i64 0,.int .i64 0,.int .i64 0,.int .i64 0,.int .i64 0,.int .i64 0,.int .i64 0,.int .i64 0,.int .i64 0,.int .i64 0,.int .i64 0,.int .i64 0,.int .i64 0,.int .i64 0,.int .i64 0,.slice none 0 0,.slice none 0 0,.int .i64 0,.int .i64 0]) t fr=.cells (LdC.zero.cs).toArray t fr:=rfl
attribute [go_sem ↓] qJR qJO qJP
attribute [go_sem] LdC.len LdC.all LdC.KA LdC.vO LdC.Wg LdC.g0 LdC.g1 LdC.s0 LdC.s1 LdC.PB LdC.qzr LdC.Rk LdC.g2 LdC.s2 LdC.g3 LdC.g4 LdC.s3 LdC.s4 LdC.HE LdC.Ix LdC.g5 LdC.s5 LdC.g6 LdC.g7 LdC.g8 LdC.g9 LdC.g10 LdC.g11 LdC.g12 LdC.Qg LdC.VS LdC.g13 LdC.Ya LdC.nN LdC.qkP LdC.qvu LdC.qZS LdC.qQG LdC.g28 LdC.s28 LdC.g29 LdC.s29 LdC.g30 LdC.s30 LdC.g31 LdC.s31
structure CoC where
 n:Int
 me:Int
 lg:Value
 ix:Value
 leads:Value
 wishes:Value
 recs:Value
 out:Value
def CoC.cs(a:CoC):List Value:=[.int .i64 a.n]++([.int .i64 a.me]++([a.lg]++([a.ix]++([a.leads]++([a.wishes]++([a.recs]++([a.out])))))))
theorem CoC.len(a:CoC):a.cs.length=8:=rfl
theorem CoC.all(a:CoC):a.cs.take 8=a.cs:=rfl
theorem CoC.KA(a:CoC):(a.cs.drop 0).take 8=a.cs:=rfl
theorem CoC.vO(a:CoC):lay a.cs [] []=some a.cs:=rfl
theorem CoC.Wg(a b:CoC):lay a.cs [(0,8)] [.agg b.cs.toArray]=some b.cs:=rfl
theorem CoC.g0(a:CoC):a.cs[0]?=some (.int .i64 a.n):=rfl
theorem CoC.s0(a:CoC)(x:Int):a.cs.set 0 (.int .i64 x)=({ a with n:=x }:CoC).cs:=rfl
theorem CoC.g1(a:CoC):a.cs[1]?=some (.int .i64 a.me):=rfl
theorem CoC.s1(a:CoC)(x:Int):a.cs.set 1 (.int .i64 x)=({ a with me:=x }:CoC).cs:=rfl
theorem CoC.g2(a:CoC):a.cs[2]?=some (a.lg):=rfl
theorem CoC.s2(a:CoC)(x:Value):a.cs.set 2 (x)=({ a with lg:=x }:CoC).cs:=rfl
theorem CoC.g3(a:CoC):a.cs[3]?=some (a.ix):=rfl
theorem CoC.s3(a:CoC)(x:Value):a.cs.set 3 (x)=({ a with ix:=x }:CoC).cs:=rfl
theorem CoC.g4(a:CoC):a.cs[4]?=some (a.leads):=rfl
theorem CoC.s4(a:CoC)(x:Value):a.cs.set 4 (x)=({ a with leads:=x }:CoC).cs:=rfl
theorem CoC.g5(a:CoC):a.cs[5]?=some (a.wishes):=rfl
theorem CoC.s5(a:CoC)(x:Value):a.cs.set 5 (x)=({ a with wishes:=x }:CoC).cs:=rfl
theorem CoC.g6(a:CoC):a.cs[6]?=some (a.recs):=rfl
theorem CoC.s6(a:CoC)(x:Value):a.cs.set 6 (x)=({ a with recs:=x }:CoC).cs:=rfl
theorem CoC.g7(a:CoC):a.cs[7]?=some (a.out):=rfl
theorem CoC.s7(a:CoC)(x:Value):a.cs.set 7 (x)=({ a with out:=x }:CoC).cs:=rfl
abbrev CoC.zero:CoC:=⟨0,0,.pointer none,.pointer none,.slice none 0 0,.slice none 0 0,.slice none 0 0,.slice none 0 0⟩
theorem qXx:Value.agg (List.toArray [.int .i64 0,.int .i64 0,.pointer none,.pointer none,.slice none 0 0,.slice none 0 0,.slice none 0 0,.slice none 0 0])=.agg (CoC.zero.cs).toArray:=rfl
theorem qXz(ps:List (Nat×Nat))(vs:List Value):lay [.int .i64 0,.int .i64 0,.pointer none,.pointer none,.slice none 0 0,.slice none 0 0,.slice none 0 0,.slice none 0 0] ps vs=lay (CoC.zero.cs) ps vs:=rfl
theorem qXj(t:TypeId)(fr:Nat×Nat):Obj.cells (List.toArray [.int .i64 0,.int .i64 0,.pointer none,.pointer none,.slice none 0 0,.slice none 0 0,.slice none 0 0,.slice none 0 0]) t fr=.cells (CoC.zero.cs).toArray t fr:=rfl
attribute [go_sem ↓] qXx qXz qXj
attribute [go_sem] CoC.len CoC.all CoC.KA CoC.vO CoC.Wg CoC.g0 CoC.s0 CoC.g1 CoC.s1 CoC.g2 CoC.s2 CoC.g3 CoC.s3 CoC.g4 CoC.s4 CoC.g5 CoC.s5 CoC.g6 CoC.s6 CoC.g7 CoC.s7
end Go.Fw
namespace Go.Fw
open Go.Proofs
variable {m m0 M:Mem} {S:List Nat} {L:List As}
inductive F2 {α β:Type} (R:α→β→Prop):List α→List β→Prop
 | nil:F2 R [] []
 | cons {x:α} {y:β} {l:List α} {r:List β}:R x y→F2 R l r→F2 R (x::l) (y::r)
instance (priority:=10) {L:List As}:cj L []:=⟨λ_ _=>trivial⟩
def v1(v:Value):List Value:=[v]
theorem qQY(v:Value):(v1 v).length=1:=rfl
theorem v1_0(v:Value):(v1 v)[0]?=some v:=rfl
attribute [go_sem] v1_0
theorem qJT{α β:Type}{R:α→β→Prop}{Q:α→Prop}{l:List α}{r:List β}(h:F2 (λx y=>R x y∧Q x) l r):∀ x∈l,Q x:=by
 induction h with
 | nil=>simp
 | cons h1 _ ih =>
  intro x hx
  rcases List.mem_cons.1 hx with rfl | hx
  ·exact h1.2
  ·exact ih x hx
def brA(T:TypeId)(w:Value)(vs:List Value)(ls:List (List UInt8)):As where
 fp:=qG w++vs.flatMap qG
 wp:=qG w++vs.flatMap qG
 sub _ h:=h
 p m:=Own m T 1 w vs.length (vs.flatMap v1)∧F2 (λv l=>RdB m v l∧∀ b∈qG v,m b≠none) vs ls∧∀ v∈vs,∀ b∈qG v,b∉qG w
 st h e:=⟨h.1.st λb hb=>e b (List.mem_append_left _ hb),by
  have h2:=h.2.1
  have e2:∀ v∈vs,∀ b∈qG v,_:=λv hv b hb=>e b (List.mem_append_right _ (List.mem_flatMap.2 ⟨v,hv,hb⟩))
  clear h e
  induction h2 with
  | nil=>exact .nil
  | cons h1 _ ih=>exact .cons ⟨h1.1.st λb hb=>e2 _ (List.mem_cons_self ..) b hb,λb hb=>by rw [e2 _ (List.mem_cons_self ..) b hb];exact h1.2 b hb⟩ (ih λv hv=>e2 v (List.mem_cons_of_mem _ hv)),h.2.2⟩
 th h b hb:=by
  rcases List.mem_append.1 hb with hb | hb
  ·exact h.1.there b hb
  ·obtain ⟨v,hv,hb2⟩:=List.mem_flatMap.1 hb
   exact qJT h.2.1 v hv b hb2
theorem qJU{α β:Type}{R:α→β→Prop}{l:List α}{r:List β}(h:F2 R l r):l.length=r.length:=by
 induction h with
 | nil=>rfl
 | cons _ _ ih=>simp [ih]
theorem qXq{α β:Type}{R:α→β→Prop}{l:List α}{r:List β}(h:F2 R l r):∀ {i:Nat} {x:α} {y:β},l[i]?=some x→r[i]?=some y→R x y:=by
 induction h with
 | nil=>intro i x y hx;simp at hx
 | cons h1 _ ih =>
  intro i x y hx hy
  cases i with
  | zero=>simp at hx hy;subst hx hy;exact h1
  | succ i=>exact ih (by simpa using hx) (by simpa using hy)
theorem qyB{α β:Type}{R:α→β→Prop}{l:List α}{r:List β}(h:F2 R l r){x:α}{y:β}(hx:R x y):F2 R (l++[x]) (r++[y]):=by
 induction h with
 | nil=>exact .cons hx .nil
 | cons h1 _ ih=>exact .cons h1 ih
theorem SI{α β:Type}{R R':α→β→Prop}{l:List α}{r:List β}(h:F2 R l r)(k:∀ x∈l,∀ y,R x y→R' x y):F2 R' l r:=by
 induction h with
 | nil=>exact .nil
 | cons h1 _ ih=>exact .cons (k _ (List.mem_cons_self ..) _ h1) (ih λx hx=>k x (List.mem_cons_of_mem _ hx))
theorem qJp{T:TypeId}{w:Value}{vs:List Value}{ls:List (List UInt8)}(h:(brA T w vs ls).p m){i:Nat}{v:Value}{l:List UInt8}(hv:vs[i]?=some v)(hl:ls[i]?=some l):RdB m v l:=(qXq h.2.1 hv hl).1
theorem BW{T:TypeId}{w:Value}{vs:List Value}{ls:List (List UInt8)}(h:(brA T w vs ls).p m):vs.length=ls.length:=qJU h.2.1
theorem qyd{T:TypeId}{w:Value}{vs:List Value}{ls:List (List UInt8)}(h:(brA T w vs ls).p m):RdS 1 v1 m w vs:=Own.rds (by decide) qQY h.1
theorem qJu{P:Program}{T bt:TypeId}{w v y:Value}{vs:List Value}{ls:List (List UInt8)}{l:List UInt8}{K:Value→Mem→Prop}{lk:Lk K}{l1:Lk w}{l2:Lk m}{b c:Nat}(H:Hq m0 m S (qw b (.cells [v].toArray T (0,0))::byA bt v l::brA T w vs ls::L))(hy:y=.slice (some ⟨b,0,none⟩) 1 c)(hv1:v.oneCell'=true)(hn:vs.length < 1000000000)(hK:∀ w' M,Hq m0 M S (brA T w' (vs++[v]) (ls++[l])::L)→K w' M):SC P T 1 24 [.slice none 0 0] w y m K lk l1 l2:=by
 have hcb:m b=some (.cells [v].toArray T (0,0)):=H.cs.1
 have H2:=H.tail
 have hbr:=H2.at 1 rfl
 have hby:=H2.at 0 rfl
 have hap:JF (byA bt v l) (brA T w vs ls):=(List.pairwise_cons.1 H2.dj).1 _ (List.mem_cons_self ..)
 refine BY (k:=1) (news:=[v]) hbr.1 hy (by simpa using zQ hcb (n:=1) (by simp)) rfl (by simpa using hv1) rfl (by omega) (by omega) λw' M ho f hblk=>hK w' M ?_
 refine H2.join.PP (A':=brA T w' (vs++[v]) (ls++[l])) ⟨?_,?_,?_⟩ (f.sub λx hx=>List.mem_append_right _ (List.mem_append_left _ hx)) ?_ ?_
 ·rw [List.length_append,List.flatMap_append];exact ho
 ·refine qyB (SI hbr.2.1 λx hx y hxy=>?_) ⟨?_,?_⟩
  ·have hne:∀ b∈qG x,M b=m b:=λb hb=>f b (hxy.2 b hb) (hbr.2.2 x hx b hb)
   exact ⟨hxy.1.st hne,λb hb=>by rw [hne b hb];exact hxy.2 b hb⟩
  ·exact (zF hby).st λb hb=>f b (hby.there b hb) λh=>hap.1 b hb (List.mem_append_left _ h)
  ·intro b hb
   rw [f b (hby.there b hb) λh=>hap.1 b hb (List.mem_append_left _ h)];exact hby.there b hb
 ·intro x hx b hb hw
  rcases List.mem_append.1 hx with hx | hx
  ·rcases hblk b hw with h | h
   ·exact hbr.2.2 x hx b hb h
   ·exact (brA T w vs ls).th hbr b (List.mem_append_right _ (List.mem_flatMap.2 ⟨x,hx,hb⟩)) h
  ·simp only [List.mem_singleton] at hx;subst hx
   rcases hblk b hw with h | h
   ·exact hap.1 b hb (List.mem_append_left _ h)
   ·exact hby.there b hb h
 all_goals
  intro b hb
  rcases List.mem_append.1 hb with hb | hb
  ·rcases hblk b hb with h | h
   ·exact .inl (List.mem_append_right _ (List.mem_append_left _ h))
   ·exact .inr h
  ·rw [List.flatMap_append] at hb
   rcases List.mem_append.1 hb with hb | hb
   ·exact .inl (List.mem_append_right _ (List.mem_append_right _ hb))
   ·exact .inl (List.mem_append_left _ (by simpa using hb))
theorem Hq.qjH(H:Hq m0 m S L)(T:TypeId):Hq m0 m S (brA T (.slice none 0 0) [] []::L) :=
 H.add (A:=brA T (.slice none 0 0) [] []) ⟨Own.nil _ _ _,.nil,by simp⟩ (Fr.refl _ _) (by simp [brA,qG])
theorem kq.ex{m:Mem}{lb r:Nat}{cut:Dp}{l:vD}(h:kq m lb r cut l):∀ b∈[lb,r],m b≠none:=λb hb=>by
 simp at hb
 rcases hb with rfl | rfl
 ·rw [h.box];exact Option.some_ne_none _
 ·exact h.map.there
theorem ZC.ex{m:Mem}{lb r:Nat}{cut:Dp}{l:wY}(h:ZC m lb r cut l):∀ b∈[lb,r],m b≠none:=λb hb=>by
 simp at hb
 rcases hb with rfl | rfl
 ·rw [h.box];exact Option.some_ne_none _
 ·exact h.map.there
def xe(lb r:Nat)(cut:Dp)(l:vD):As where
 fp:=[lb,r]
 wp:=[lb,r]
 sub _ h:=h
 p m:=kq m lb r cut l
 st h e:=⟨by rw [e _ (by simp)];exact h.box,by
  obtain ⟨es,c,hm,hh⟩:=h.map
  exact ⟨es,c,by rw [e _ (by simp)];exact hm,hh⟩⟩
 th h:=h.ex
instance {lb r:Nat} {cut:Dp} {l:vD} {L:List As} {G:List (Nat×Obj)} [I:cj L G]:cj (xe lb r cut l::L) ((lb,.cells (Value.map (some r)::dv cut).toArray tD (0,0))::G):=⟨λm h=>⟨h.1.box,I.h m h.2⟩⟩
theorem qqh(cut:Dp)(m:Mem):CN Tryz.prog GM [cut.v] m λv A=>∃ lb r,v=lp lb∧A=xe lb r (vF Dp.zero cut) [] :=
 MC.mono (qqg cut m) λv M ⟨⟨lb,r,e,hL,h1,h2⟩,f⟩=>⟨xe lb r (vF Dp.zero cut) [],⟨lb,r,e,rfl⟩,hL,f,by simp [xe,h1,h2]⟩
theorem GP{m:Mem}{lb r:Nat}{cut:Dp}{l:vD}(h:(xe lb r cut l).p m)(k:Int×Int)(c:Cel) :
  MC Tryz.prog lj [lp lb,pv k,c.v] m λv m'=>(v=.bool (decide (eL cut l k c))∧(xe lb r cut (if eL cut l k c then upC k c l else l)).p m')∧Fr m m' (xe lb r cut l).wp :=
 MC.mono (qqf h k c) λv M ⟨h,f⟩=>⟨h,f.sub (by simp [xe])⟩
def xT(lb r:Nat)(cut:Dp)(l:wY):As where
 fp:=[lb,r]
 wp:=[lb,r]
 sub _ h:=h
 p m:=ZC m lb r cut l
 st h e:=⟨by rw [e _ (by simp)];exact h.box,by
  obtain ⟨es,c,hm,hh⟩:=h.map
  exact ⟨es,c,by rw [e _ (by simp)];exact hm,hh⟩⟩
 th h:=h.ex
instance {lb r:Nat} {cut:Dp} {l:wY} {L:List As} {G:List (Nat×Obj)} [I:cj L G]:cj (xT lb r cut l::L) ((lb,.cells (Value.map (some r)::dv cut).toArray wW (0,0))::G):=⟨λm h=>⟨h.1.box,I.h m h.2⟩⟩
theorem RF{m:Mem}{lb r:Nat}{cut:Dp}{l:wY}(h:(xT lb r cut l).p m)(k:Int×Int)(c:Cmd)(s:Int) :
  MC Tryz.prog Vd [lp lb,pv k,c.v,.int .i64 s] m λv m'=>(v=.bool (decide (dh cut k c s))∧(xT lb r cut (if dh cut k c s then upN k ⟨c,s⟩ l else l)).p m')∧Fr m m' (xT lb r cut l).wp :=
 MC.mono (qZt h k c s) λv M ⟨h,f⟩=>⟨h,f.sub (by simp [xT])⟩
theorem Nu{m:Mem}{lb r:Nat}{cut:Dp}{l:wY}(h:(xT lb r cut l).p m)(hr:∀ k∈zB l,zj k)(upto:Dp) :
  MC Tryz.prog Kj [lp lb,upto.v] m λv m'=>(v=.tuple #[]∧(xT lb r (vF cut upto) (l.filter λp=>¬ Hy (vF cut upto) p.1)).p m')∧Fr m m' (xT lb r cut l).wp:=qvA h hr upto
theorem qqo(m:Mem):CN Tryz.prog oq [] m λv A=>∃ lb r,v=lp lb∧A=xT lb r Dp.zero [] :=
 MC.mono (qZP m) λv M ⟨⟨lb,r,e,hL,h1,h2⟩,f⟩=>⟨xT lb r Dp.zero [],⟨lb,r,e,rfl⟩,hL,f,by simp [xT,h1,h2]⟩
def qP:List As→As
 | []=>qjI
 | A::r=>vG A (qP r)
theorem Hq.qqX(H:Hq m0 m S L):Hq m0 m S (qP []::L):=H.add (A:=qjI) trivial (Fr.refl _ _) (by simp)
theorem Hq.zc:∀ {l:List As} {L:List As},Hq m0 m S (qP l::L)→Hq m0 m S (l++L)
 | [],_,H=>H.tail
 | A::r,L,H=>by
  have H:=Hq.split (A:=A) (B:=qP r) H
  have H:Hq m0 m S (qP r::A::L):=H.perm (List.Perm.swap ..)
  exact (Hq.zc H).perm List.perm_middle.symm
theorem Hq.jc:∀ {l:List As} {L:List As},Hq m0 m S (l++L)→Hq m0 m S (qP l::L)
 | [],_,H=>H.qqX
 | A::r,L,H=>by
  have H:Hq m0 m S (r++(A::L)):=H.perm List.perm_middle
  have H:=Hq.jc H
  exact Hq.join (H.perm (List.Perm.swap ..))
structure Ld where
 id:Int×Int
 way:Int
 bal:Int×Int
 first:Bool
 cmd:Cmd
 att:Att
 ans:Dp
 reps:List Att
 said:List Sd
 count:Int
 ticks:Int
structure LdV where
 b:Nat
 rp:Value
 sd:Value
def Ld.c(x:Ld)(v:LdV):LdC:=⟨x.id,x.way,x.bal,x.first,x.cmd,x.att,x.ans,v.rp,v.sd,x.count,x.ticks⟩
def ldA(v:LdV)(x:Ld):As:=qP [qw v.b (.cells (x.c v).cs.toArray qN (0,0)),qV qb 8 v.rp x.reps.length (x.reps.flatMap Att.cs),qV qD 22 v.sd x.said.length (x.said.flatMap Sd.cs)]
def wsA(b:Nat)(x:Wsh):As:=qw b (.cells x.cs.toArray VV (0,0))
structure Co where
 n:Nat
 me:Nat
 cut:Dp
 lg:vD
 xcut:Dp
 xl:wY
 leads:List Ld
 wishes:List Wsh
 wb:List Nat
 recs:List (List UInt8)
 out:List Lt
structure Ly where
 lb:Nat
 lr:Nat
 xb:Nat
 xr:Nat
 lv:Value
 wv:Value
 rv:Value
 ov:Value
 lds:List LdV
 wss:List Nat
 rs:List Value
def Ly.c(Y:Ly)(C:Co):CoC:=⟨C.n,C.me,lp Y.lb,lp Y.xb,Y.lv,Y.wv,Y.rv,Y.ov⟩
abbrev ptV(b:Nat):List Value:=[.pointer (some ⟨b,0,none⟩)]
def Qb(vs:List LdV)(xs:List Ld):As:=qP (List.zipWith ldA vs xs)
def we(bs:List Nat)(xs:List Wsh):As:=qP (List.zipWith wsA bs xs)
abbrev coT(Y:Ly)(C:Co):List As:=[xe Y.lb Y.lr C.cut C.lg,xT Y.xb Y.xr C.xcut C.xl,qV qd 1 Y.lv Y.lds.length (Y.lds.flatMap λv=>ptV v.b),qV qQ 1 Y.wv Y.wss.length (Y.wss.flatMap ptV),
 brA qB Y.rv Y.rs C.recs,qV qv 51 Y.ov C.out.length (C.out.flatMap Lt.cs),Qb Y.lds C.leads,we Y.wss C.wishes]
abbrev coL(cb:Nat)(Y:Ly)(C:Co):List As:=qw cb (.cells (Y.c C).cs.toArray qH (0,0))::coT Y C
structure Ly.ok(Y:Ly)(C:Co):Prop where
 lds:Y.lds.length=C.leads.length
 wss:Y.wss.length=C.wishes.length
 wb:Y.wss=C.wb
def coA(cb:Nat)(Y:Ly)(C:Co):As:=qP (coL cb Y C)
end Go.Fw
namespace Go.Fw
open Go.Proofs
variable {m m0 M:Mem} {S:List Nat} {L:List As}
variable {cb:Nat} {Y:Ly} {C:Co}
theorem zY:∀ {l:List As} {m:Mem},(qP l).p m→∀ A∈l,A.p m
 | A::r,m,h,B,hB=>by
  have h:A.p m∧(qP r).p m∧JF A (qP r):=h
  rcases List.mem_cons.1 hB with rfl | hB
  ·exact h.1
  ·exact zY h.2.1 B hB
theorem Qx:∀ {l:List As},(∀ A∈l,A.fp=A.wp)→(qP l).fp=(qP l).wp
 | [],_=>rfl
 | A::r,h=>by
  show A.fp++(qP r).fp=A.wp++(qP r).wp
  rw [h A (List.mem_cons_self ..),Qx λB hB=>h B (List.mem_cons_of_mem _ hB)]
theorem Bd{α β:Type}(f:α→β→As)(h:∀ a b,(f a b).fp=(f a b).wp)(l:List α)(r:List β):(qP (List.zipWith f l r)).fp=(qP (List.zipWith f l r)).wp:=by
 refine Qx λA hA=>?_
 obtain ⟨i,hi,e⟩:=List.mem_iff_getElem.1 hA
 rw [List.getElem_zipWith] at e
 rw [← e];exact h _ _
theorem qyO(v:LdV)(x:Ld):(ldA v x).fp=(ldA v x).wp:=Qx λA hA=>by
 simp only [List.mem_cons,List.not_mem_nil,or_false] at hA
 rcases hA with rfl | rfl | rfl<;>first | rfl | simp
theorem qu:(coA cb Y C).fp=(coA cb Y C).wp:=by
 refine Qx λA hA=>?_
 simp only [coL,List.mem_cons,List.not_mem_nil,or_false] at hA
 rcases hA with rfl | rfl | rfl | rfl | rfl | rfl | rfl | rfl | rfl
 all_goals first
  | rfl
  | simp;done
  | exact Bd ldA qyO _ _
  | exact Bd wsA (λ_ _=>by simp [wsA]) _ _
theorem Hq.co(h:(coA cb Y C).p m):Hq m m (coA cb Y C).wp (coL cb Y C):=by
 have:=Hq.zc (l:=coL cb Y C) (L:=[]) (Hq.one h)
 rwa [List.append_nil] at this
theorem Hq.coS(H:Hq m0 m S (coA cb Y C::L)):Hq m0 m S (coL cb Y C++L):=Hq.zc (l:=coL cb Y C) H
theorem Hq.coJ(H:Hq m0 m S (coL cb Y C++L)):Hq m0 m S (coA cb Y C::L):=Hq.jc (l:=coL cb Y C) H
def CoR(cb:Nat)(C:Co)(V u:Value)(A:As):Prop:=u=V∧∃ Y:Ly,Y.ok C∧A=coA cb Y C
theorem CoR.E{G:Prop}{C:Co}{V u:Value}{A:As}(h:CoR cb C V u A)(k:∀ Y,u=V→Y.ok C→A=coA cb Y C→G):G:=by
 obtain ⟨h1,Y,h2,h3⟩:=h
 exact k Y h1 h2 h3
theorem qy(h:(coA cb Y C).p m):m cb=some (.cells (Y.c C).cs.toArray qH (0,0)):=(Hq.one (A:=qw cb (.cells (Y.c C).cs.toArray qH (0,0))) (zY h _ (List.mem_cons_self ..))).cs.1
def CoK(cb:Nat)(Y0:Ly)(C:Co)(V u:Value)(A:As):Prop:=u=V∧∃ Y:Ly,Y.ok C∧Y.lds=Y0.lds∧A=coA cb Y C
theorem CoK.E{G:Prop}{Y0:Ly}{C:Co}{V u:Value}{A:As}(h:CoK cb Y0 C V u A)(k:∀ Y,u=V→Y.ok C→A=coA cb Y C→Y.lds=Y0.lds→G):G:=by
 obtain ⟨h1,Y,h2,h4,h3⟩:=h
 exact k Y h1 h2 h3 h4
theorem Uz{P:Program}{f:Nat}{args:List Value}{A:As}{Y0:Ly}{C:Co}{V:Value}(h:CM P f args m A (CoK cb Y0 C V)):CM P f args m A (CoR cb C V) :=
 MC.mono h λv M ⟨A',⟨h1,Y,h2,_,h3⟩,h⟩=>⟨A',⟨h1,Y,h2,h3⟩,h⟩
theorem Si{Y':Ly}{C':Co}{V:Value}(ho:Y'.ok C')(hl:Y'.lds=Y.lds)(H:Hq m M (coA cb Y C).wp [coA cb Y' C']) :
  ∃ A',CoK cb Y C' V V A'∧A'.p M∧Fr m M (coA cb Y C).wp∧(∀ b∈A'.fp,b∈(coA cb Y C).fp∨m b=none)∧∀ b∈A'.wp,b∈(coA cb Y C).wp∨m b=none :=
 ⟨_,⟨rfl,_,ho,hl,rfl⟩,H.hs.1,H.fr,λb hb=>by rw [qu];rw [qu] at hb;exact H.done.2.2 b hb,H.done.2.2⟩
theorem BV{Y':Ly}{C':Co}{V:Value}(ho:Y'.ok C')(hl:Y'.lds=Y.lds)(H:Hq m M (coA cb Y C).wp (coL cb Y' C')) :
  ∃ A',CoK cb Y C' V V A'∧A'.p M∧Fr m M (coA cb Y C).wp∧(∀ b∈A'.fp,b∈(coA cb Y C).fp∨m b=none)∧∀ b∈A'.wp,b∈(coA cb Y C).wp∨m b=none :=
 Si ho hl (Hq.coJ (L:=[]) (by rw [List.append_nil];exact H))
def Kp(i:Int×Int)(Y0:Ly)(C0:Co)(Y:Ly)(C:Co):Prop:=∀ (p:Nat) (v:LdV) (x:Ld),Y0.lds[p]?=some v→C0.leads[p]?=some x→x.id≠i→∃ p':Nat,Y.lds[p']?=some v∧C.leads[p']?=some x
theorem Kp.same{i:Int×Int}{Y0 Y:Ly}{C0 C:Co}(h1:Y.lds=Y0.lds)(h2:C.leads=C0.leads):Kp i Y0 C0 Y C:=λp v x hv hx _=>⟨p,by rw [h1];exact hv,by rw [h2];exact hx⟩
theorem Kp.trans{i:Int×Int}{Y0 Y1 Y2:Ly}{C0 C1 C2:Co}(h:Kp i Y0 C0 Y1 C1)(h':Kp i Y1 C1 Y2 C2):Kp i Y0 C0 Y2 C2:=λp v x hv hx hi=>by
 obtain ⟨p',h1,h2⟩:=h p v x hv hx hi
 exact h' p' v x h1 h2 hi
def CoN(cb:Nat)(Y0:Ly)(C0:Co)(i:Int×Int)(C:Co)(V u:Value)(A:As):Prop:=u=V∧∃ Y:Ly,Y.ok C∧Kp i Y0 C0 Y C∧A=coA cb Y C
theorem CoN.E{G:Prop}{Y0:Ly}{C0 C:Co}{i:Int×Int}{V u:Value}{A:As}(h:CoN cb Y0 C0 i C V u A)(k:∀ Y,u=V→Y.ok C→A=coA cb Y C→Kp i Y0 C0 Y C→G):G:=by
 obtain ⟨h1,Y,h2,h4,h3⟩:=h
 exact k Y h1 h2 h3 h4
theorem BK{P:Program}{f:Nat}{args:List Value}{A:As}{Y0:Ly}{C0 C:Co}{i:Int×Int}{V:Value}(h:CM P f args m A (CoN cb Y0 C0 i C V)):CM P f args m A (CoR cb C V) :=
 MC.mono h λv M ⟨A',⟨h1,Y,h2,_,h3⟩,h⟩=>⟨A',⟨h1,Y,h2,h3⟩,h⟩
theorem nY{A:As}{Y0 Y':Ly}{C0 C':Co}{i:Int×Int}{V:Value}(hfw:A.fp=A.wp)(ho:Y'.ok C')(hk:Kp i Y0 C0 Y' C')(H:Hq m M A.wp [coA cb Y' C']) :
  ∃ A',CoN cb Y0 C0 i C' V V A'∧A'.p M∧Fr m M A.wp∧(∀ b∈A'.fp,b∈A.fp∨m b=none)∧∀ b∈A'.wp,b∈A.wp∨m b=none :=
 ⟨_,⟨rfl,_,ho,hk,rfl⟩,H.hs.1,H.fr,λb hb=>by rw [hfw];rw [qu] at hb;exact H.done.2.2 b hb,H.done.2.2⟩
theorem Re(l:List Lt):∀ v∈l.flatMap Lt.cs,v.oneCell'=true:=λv hv=>by
 obtain ⟨x,_,hx⟩:=List.mem_flatMap.1 hv
 exact List.all_eq_true.1 (Lt.one x) v hx
theorem qjA{v:Value}(l:List Lt)(x:Lt):qV qv 51 v (l.length+1) (l.flatMap Lt.cs++x.cs)=qV qv 51 v (l++[x]).length ((l++[x]).flatMap Lt.cs):=by simp
def Co.send(C:Co)(to:Int)(x:Lt):Co:={ C with out:=C.out++[{ x with src:=C.me,dst:=to }] }
theorem qjj(h:(coA cb Y C).p m)(ho:Y.ok C)(to:Int)(x:Lt)(hn:C.out.length≤1000000) :
  CM Tryz.prog aT [lp cb,.int .i64 to,x.v] m (coA cb Y C) (CoK cb Y (C.send to x) (.tuple #[])):=by
 have H:=Hq.co h
 refine pa (by simp [Tryz.f33]) ?_
 simp (disch:=omega) only [go_sem,undef]
 refine qg H λb M f H=>?_
 simp (disch:=omega) only [go_sem,undef,H.cs,Ly.c]
 refine xK H λM f H=>?_
 simp (disch:=omega) only [go_sem,undef,H.cs,Ly.c]
 refine xK H λM f H=>?_
 simp (disch:=omega) only [go_sem,undef,H.cs,Ly.c]
 refine qg H λb2 M f H=>?_
 simp (disch:=omega) only [go_sem,undef,H.cs,Ly.c]
 refine Qc 8 H rfl rfl (k:=1) (news:=({ x with src:=C.me,dst:=to }:Lt).cs) (zQ (n:=51) H.cs.1 (Nat.le_refl _)) rfl (λv hv=>List.all_eq_true.1 (Lt.one _) v hv) rfl (by omega) (by omega) λv M f H=>?_
 refine Own.zC (H.at 8 rfl) λa3 c3 e=>?_
 subst e
 rw [qjA] at H
 have H:Hq m M (coA cb Y C).wp (qw cb (.cells (Y.c C).cs.toArray qH (0,0))::coT { Y with ov:=.slice a3 (C.out.length+1) c3 } (C.send to x)):=H.tail.tail
 simp (disch:=omega) only [go_sem,undef,H.cs,Ly.c]
 refine xK H λM f H=>?_
 simp (disch:=omega) only [go_sem,undef]
 exact BV (Y':={ Y with ov:=.slice a3 (C.out.length+1) c3 }) (C':=C.send to x) ⟨ho.lds,ho.wss,ho.wb⟩ rfl H
theorem eW(h:(coA cb Y C).p m)(ho:Y.ok C)(to:Int)(x:Lt)(hn:C.out.length≤1000000) :
  CM Tryz.prog aT [lp cb,.int .i64 to,x.v] m (coA cb Y C) (CoR cb (C.send to x) (.tuple #[])):=Uz (qjj h ho to x hn)
def Co.Zu(C:Co)(x:Lt)(ans:Dp):Nat→Co
 | 0=>C
 | j+1=>if j≠C.me∧ans.g j=0 then (C.Zu x ans j).send j x else C.Zu x ans j
def Co.all(C:Co)(x:Lt)(ans:Dp):Co:=C.Zu x ans C.n
theorem Ba(C:Co)(x:Lt)(ans:Dp):∀ j,(C.Zu x ans j).me=C.me∧(C.Zu x ans j).n=C.n∧(C.Zu x ans j).leads=C.leads∧(C.Zu x ans j).wishes=C.wishes∧(C.Zu x ans j).out.length≤C.out.length+j
 | 0=>by simp [Co.Zu]
 | j+1=>by
  obtain ⟨h1,h2,h3,h4,h5⟩:=Ba C x ans j
  unfold Co.Zu
  split
  ·exact ⟨h1,h2,h3,h4,by simp only [Co.send,List.length_append,List.length_cons,List.length_nil];omega⟩
  ·exact ⟨h1,h2,h3,h4,by omega⟩
theorem UX(h:(coA cb Y C).p m)(ho:Y.ok C)(x:Lt)(ans:Dp)(hn7:C.n≤7)(hn:C.out.length≤999000) :
  CM Tryz.prog ur [lp cb,x.v,.agg (dv ans).toArray] m (coA cb Y C) (CoK cb Y (C.all x ans) (.tuple #[])):=by
 have H:=Hq.one h
 refine td (by simp [Tryz.f33]) ?_
 simp (disch:=omega) only [go_sem,undef]
 refine qg H λb4 M f H=>?_
 simp (disch:=omega) only [go_sem,undef]
 refine qg H λb5 M f H=>?_
 simp (disch:=omega) only [go_sem,undef,qy (H.at 2 rfl),Ly.c]
 refine qe (λk E m'=>∃ (j:Nat) (Y':Ly),j≤C.n∧k=C.n - j∧E=[(0,lp cb),(4,.pointer (some ⟨b4,0,none⟩)),(5,.pointer (some ⟨b5,0,none⟩)),(10,.int .i64 (C.n:Nat)),(11,.int .i64 (j:Nat))]∧Y'.ok (C.Zu x ans j) ∧
  Hq m m' (coA cb Y C).wp [qw b5 (.cells (dv ans).toArray qka),qw b4 (.cells x.cs.toArray qv),coA cb Y' (C.Zu x ans j)]∧Y'.lds=Y.lds) C.n rfl ⟨0,Y,by omega,rfl,rfl,ho,H,rfl⟩ ?_
 clear H f
 rintro k E M1 ⟨j,Y',hj,rfl,rfl,ho',H,hyl⟩
 have hme:=Ba C x ans j
 by_cases hlt:j < C.n
 ·have hc:=qy (H.at 2 rfl)
  have hj7:j < 7:=by omega
  by_cases h1:j=C.me
  ·have hs:C.Zu x ans (j+1)=C.Zu x ans j:=if_neg (λh=>h.1 h1)
   simp (disch:=omega) only [go_sem,undef,qZ (show ((j:Nat):Int) < (C.n:Nat) by omega),H.cs,hc,Ly.c,hme.1,qX (show ¬ ((j:Nat):Int)≠(C.me:Nat) by omega)]
   exact qK (C.n - (j+1)) (by omega) ⟨j+1,Y',by omega,rfl,rfl,by rw [hs];exact ho',by rw [hs];exact H,hyl⟩
  ·by_cases h2:ans.g j=0
   ·have hs:C.Zu x ans (j+1)=(C.Zu x ans j).send j x:=if_pos ⟨h1,h2⟩
    simp (disch:=omega) only [go_sem,undef,qZ (show ((j:Nat):Int) < (C.n:Nat) by omega),H.cs,hc,Ly.c,hme.1,qZ (show ((j:Nat):Int)≠(C.me:Nat) by omega),qZ h2]
    refine qxU H (qjj (H.at 2 rfl) ho' (j:Nat) x (by omega)) λu M A' hR f H=>?_
    refine hR.E λY2 eu ho2 eA hy2=>?_
    subst eu eA
    simp (disch:=omega) only [go_sem,undef]
    exact qK (C.n - (j+1)) (by omega) ⟨j+1,Y2,by omega,rfl,rfl,by rw [hs];exact ho2,by rw [hs];exact H,hy2.trans hyl⟩
   ·have hs:C.Zu x ans (j+1)=C.Zu x ans j:=if_neg (λh=>h2 h.2)
    simp (disch:=omega) only [go_sem,undef,qZ (show ((j:Nat):Int) < (C.n:Nat) by omega),H.cs,hc,Ly.c,hme.1,qZ (show ((j:Nat):Int)≠(C.me:Nat) by omega),qX h2]
    exact qK (C.n - (j+1)) (by omega) ⟨j+1,Y',by omega,rfl,rfl,by rw [hs];exact ho',by rw [hs];exact H,hyl⟩
 ·have e:j=C.n:=by omega
  subst e
  simp (disch:=omega) only [go_sem,undef,qX (show ¬ ((C.n:Nat):Int) < (C.n:Nat) by omega)]
  exact Si ho' hyl H.tail.tail
theorem gl(C:Co)(x:Lt)(ans:Dp):(C.all x ans).leads=C.leads:=(Ba C x ans C.n).2.2.1
end Go.Fw
namespace Go.Fw
open Go.Proofs
variable {m m0 M:Mem} {S:List Nat} {L:List As}
variable {cb:Nat} {Y:Ly} {C:Co}
theorem kO(h:(coA cb Y C).p m):(xe Y.lb Y.lr C.cut C.lg).p m:=zY h _ (by simp)
theorem tm(h:(coA cb Y C).p m):(xT Y.xb Y.xr C.xcut C.xl).p m:=zY h _ (by simp)
theorem rj(h:(coA cb Y C).p m):Own m qd 1 Y.lv Y.lds.length (Y.lds.flatMap λv=>ptV v.b):=zY h (qV qd 1 Y.lv Y.lds.length (Y.lds.flatMap λv=>ptV v.b)) (by simp)
theorem gf(h:(coA cb Y C).p m):Own m qQ 1 Y.wv Y.wss.length (Y.wss.flatMap ptV):=zY h (qV qQ 1 Y.wv Y.wss.length (Y.wss.flatMap ptV)) (by simp)
theorem zV(h:(coA cb Y C).p m):(Qb Y.lds C.leads).p m:=zY h _ (by simp)
theorem cell_of{b:Nat}{o:Obj}(h:(qw b o).p m):m b=some o:=(Hq.one h).cs.1
theorem qT{v:LdV}{x:Ld}(h:(ldA v x).p m):m v.b=some (.cells (x.c v).cs.toArray qN (0,0)):=cell_of (zY h _ (List.mem_cons_self ..))
theorem zy{vs:List LdV}{xs:List Ld}{j:Nat}{v:LdV}{x:Ld}(h:(Qb vs xs).p m)(hv:vs[j]?=some v)(hx:xs[j]?=some x):(ldA v x).p m:=by
 refine zY h _ (List.mem_of_getElem? (i:=j) ?_)
 rw [List.getElem?_zipWith,hv,hx]
def Ld.ask(x:Ld):Lt:=if x.way=0 then { Lt.zero with kind:=1,inst:=x.id,bal:=x.bal,cmd:=x.cmd,att:=x.att } else if x.way=1 then { Lt.zero with kind:=3,inst:=x.id,bal:=x.bal,cmd:=x.cmd,att:=x.att } else { Lt.zero with kind:=6,inst:=x.id,bal:=x.bal }
theorem qkK{v:LdV}{x:Ld}(h:m v.b=some (.cells (x.c v).cs.toArray qN (0,0))):MC Tryz.prog ul [lp v.b] m λu M=>u=x.ask.v∧Fr m M []:=by
 refine sO (by simp [Tryz.f33]) ?_
 have H:=Hq.refl m []
 simp (disch:=omega) only [go_sem,undef]
 repeat' (first
  | ((first
   | (with_reducible first
    | refine qg H λ_ _ f H2=>?_
    | refine xK H λ_ f H2=>?_
    | refine cQ H λ_ f H2=>?_
    | refine Wy H λ_ f H2=>?_
    | refine eX H λ_ f H2=>?_
    | refine eJ H λ_ f H2=>?_
    | refine eZ H λ_ f H2=>?_)
   | ((with_reducible refine qs H ?hl ?h1 λ_ f H2=>?_);(case hl=>rfl);(case h1=>rfl))
   | ((with_reducible refine zA H ?hl ?h1 λ_ f H2=>?_);(case hl=>rfl);(case h1=>rfl))
   | ((with_reducible refine ZB H ?hl ?h1 λ_ f H2=>?_);(case hl=>rfl);(case h1=>rfl))
   | ((with_reducible refine XT H ?hl ?h1 λ_ f H2=>?_);(case hl=>rfl);(case h1=>rfl))
   | ((with_reducible refine XS H ?hl ?h1 λ_ f H2=>?_);(case hl=>rfl);(case h1=>rfl))
   | ((with_reducible refine XR H ?hl ?h1 λ_ f H2=>?_);(case hl=>rfl);(case h1=>rfl))
   | ((with_reducible refine cV H ?hl ?h1 λ_ f H2=>?_);(case hl=>exact Nat.le_of_ble_eq_true rfl);(case h1=>rfl);(simp only [go_sem] at H2))
   | ((with_reducible refine cK H ?hl ?h1 λ_ f H2=>?_);(case hl=>exact Nat.le_of_ble_eq_true rfl);(case h1=>rfl);(simp only [go_sem] at H2))
   | ((with_reducible refine eV H ?hl ?h1 λ_ f H2=>?_);(case hl=>exact Nat.le_of_ble_eq_true rfl);(case h1=>rfl);(simp only [go_sem] at H2))
   | ((with_reducible refine eK H ?hl ?h1 λ_ f H2=>?_);(case hl=>exact Nat.le_of_ble_eq_true rfl);(case h1=>rfl);(simp only [go_sem] at H2)));clear f;clear H;have H:=H2;clear H2;simp (disch:=omega) only [go_sem,undef,H.cs, *,H.fr.xJ h,Ld.c])
  | ((with_reducible refine qE (λhq=>?_) (λhq=>?_))<;>(try simp only [Bool.not_true,Bool.not_false] at hq)<;>simp (disch:=omega) only [go_sem,undef,H.cs, *,H.fr.xJ h,Ld.c])
  | ((with_reducible refine ql (λhq=>?_) (λhq=>?_))<;>simp (disch:=omega) only [go_sem,undef,H.cs, *,H.fr.xJ h,Ld.c]))
 all_goals (try simp only [decide_eq_true_eq,decide_eq_false_iff_not] at *)
 all_goals exact ⟨by simp [Ld.ask, *],H.fr⟩
def ptO(vs:List LdV):Option Nat→Value
 | some j=>match vs[j]? with
  | some v=>lp v.b
  | none=>.pointer none
 | none=>.pointer none
def fdL(i:Int×Int)(l:List Ld):Option Nat:=l.findIdx? λx=>decide (x.id=i)
theorem TA{i:Int×Int}{l:List Ld}{j:Nat}{x:Ld}(h:∀ t y,t < j→l[t]?=some y→y.id≠i)(hx:l[j]?=some x)(e:x.id=i):fdL i l=some j:=by
 unfold fdL
 obtain ⟨hj,ex⟩:=List.getElem?_eq_some_iff.1 hx
 rw [List.findIdx?_eq_some_iff_getElem]
 refine ⟨hj,by rw [ex];simp [e],λt ht=>?_⟩
 have:=h t _ ht (List.getElem?_eq_getElem (by omega))
 simp [this]
theorem qwp{i:Int×Int}{l:List Ld}(h:∀ t y,t < l.length→l[t]?=some y→y.id≠i):fdL i l=none:=by
 unfold fdL
 rw [List.findIdx?_eq_none_iff]
 intro y hy
 obtain ⟨t,ht⟩:=List.getElem?_of_mem hy
 have:=h t y (List.getElem?_eq_some_iff.1 ht).1 ht
 simp [this]
theorem XA(h:(coA cb Y C).p m)(ho:Y.ok C)(i:Int×Int)(hn:C.leads.length≤1000000):MC Tryz.prog rM [lp cb,pv i] m λu M=>u=ptO Y.lds (fdL i C.leads)∧Fr m M []:=by
 have hrow:=rj h
 obtain ⟨a,c,hv⟩:=hrow.form
 have hrd:RdS 1 (λv:LdV=>ptV v.b) m Y.lv Y.lds:=Own.rds (by decide) (λ_=>rfl) hrow
 have hc:=qy h
 have hlds:=zV h
 have hlen:=ho.lds
 generalize Y.lds=vs at *
 refine pI (by simp [Tryz.f33]) ?_
 have H:=Hq.refl m []
 simp (disch:=omega) only [go_sem,undef]
 refine qg H λb M f H=>?_
 simp (disch:=omega) only [go_sem,undef,H.fr.xJ hc,Ly.c,hv]
 rw [hv] at hrd
 refine qe (λk E m'=>∃ (j:Nat),j≤vs.length∧k=vs.length - j∧(∀ t y,t < j→C.leads[t]?=some y→y.id≠i)∧E=[(3,.pointer (some ⟨b,0,none⟩)),(10,.slice a vs.length c),(11,.int .i64 (vs.length:Nat)),(12,.int .i64 (j:Nat))]∧Hq m m' [] [qw b (.cells (pc i).toArray qW)]) vs.length rfl ⟨0,by omega,rfl,by simp,rfl,H⟩ ?_
 clear H f
 rintro k E M1 ⟨j,hj,rfl,hno,rfl,H⟩
 by_cases hlt:j < vs.length
 ·refine RdS.elK (hrd.frame H.fr) hlt (by decide) λbx o v hvj hix hE=>?_
  have hp0:(ptV v.b)[0]?=some (lp v.b):=rfl
  refine Exists.elim (⟨C.leads[j]'(by omega),List.getElem?_eq_getElem (by omega)⟩:∃ x,C.leads[j]?=some x) λx hx=>?_
  have hcl:=H.fr.xJ (qT (zy hlds hvj hx))
  by_cases hid:x.id=i
  ·have hfd:=TA hno hx hid
   simp (disch:=omega) only [go_sem,undef,qZ (show ((j:Nat):Int) < (vs.length:Nat) by omega),hix,hE.ld0,hp0,H.cs,hcl,Ld.c,qZ hid]
   exact ⟨by rw [hfd];simp [ptO,hvj],H.fr⟩
  ·simp (disch:=omega) only [go_sem,undef,qZ (show ((j:Nat):Int) < (vs.length:Nat) by omega),hix,hE.ld0,hp0,H.cs,hcl,Ld.c,qX hid]
   refine qK (vs.length - (j+1)) (by omega) ⟨j+1,by omega,rfl,λt y ht hy=>?_,rfl,H⟩
   rcases Nat.lt_or_eq_of_le (Nat.le_of_lt_succ ht) with h | h
   ·exact hno t y h hy
   ·subst h;rw [hx] at hy;cases hy;exact hid
 ·have e:j=vs.length:=by omega
  subst e
  have hfd:fdL i C.leads=none:=qwp λt y ht hy=>hno t y (by omega) hy
  simp (disch:=omega) only [go_sem,undef,qX (show ¬ ((vs.length:Nat):Int) < (vs.length:Nat) by omega)]
  exact ⟨by rw [hfd];rfl,H.fr⟩
end Go.Fw
namespace Go.Fw
open Go.Proofs
variable {m m0 M:Mem} {S:List Nat} {L:List As}
variable {cb:Nat} {Y:Ly} {C:Co}
theorem Pa{L:List As}(h:L.Pairwise JF)(i j:Nat)(hi:i < L.length)(hj:j < L.length)(hij:i≠j):JF L[i] L[j]:=by
 rcases Nat.lt_or_gt_of_ne hij with h1 | h1
 ·exact List.pairwise_iff_getElem.1 h i j hi hj h1
 ·exact (List.pairwise_iff_getElem.1 h j i hj hi h1).symm
theorem Hq.sel(H:Hq m0 m S L)(n:Nat)(is:List Nat)(hn:L.length=n)(hnd:is.Nodup)(hlt:∀ i∈is,i < n):Hq m0 m S (is.map λi=>L.getD i qjI):=by
 subst hn
 have hg:∀ i,i < L.length→L.getD i qjI∈L:=λi hi=>by
  rw [List.getD_eq_getElem?_getD,List.getElem?_eq_getElem hi];exact List.getElem_mem hi
 refine ⟨Hps.of λA hA=>?_,H.fr,List.pairwise_map.2 (List.Pairwise.imp_of_mem (λ{a b} ha hb hab=>?_) hnd),λA hA=>?_⟩
 ·obtain ⟨i,hi,rfl⟩:=List.mem_map.1 hA
  exact H.hs.mem _ (hg i (hlt i hi))
 ·have h1:=hlt a ha
  have h2:=hlt b hb
  have:=Pa H.dj a b h1 h2 hab
  simpa [List.getD_eq_getElem?_getD,List.getElem?_eq_getElem h1,List.getElem?_eq_getElem h2] using this
 ·obtain ⟨i,hi,rfl⟩:=List.mem_map.1 hA
  exact H.nw _ (hg i (hlt i hi))
theorem wV(h:(coA cb Y C).p m)(i:Int×Int):MC Tryz.prog Xi [lp cb,pv i] m λu M=>u=.tuple #[((lkC i C.lg).getD Cel.zero).v,.bool (lkC i C.lg).isSome]∧Fr m M []:=by
 have hc:=qy h
 have hl:=kO h
 refine rq (by simp [Tryz.f33]) ?_
 have H:=Hq.refl m []
 simp (disch:=omega) only [go_sem,undef]
 refine qg H λb M f H=>?_
 simp (disch:=omega) only [go_sem,undef]
 refine qg H λb2 M f H=>?_
 simp (disch:=omega) only [go_sem,undef,H.fr.xJ hc,Ly.c,H.cs]
 refine qa H (zO ((xe ..).fr0 hl H.fr) i) λM f H=>?_
 simp (disch:=omega) only [go_sem,undef]
 refine qs H rfl rfl λM f H=>?_
 simp (disch:=omega) only [go_sem,undef,H.cs]
 exact ⟨rfl,H.fr⟩
theorem Gp(cut:Dp){l r:List (Int×Int)}(hr:∀ k∈l,zj k)(h:l.Perm r):Ht cut l=Ht cut r:=by
 refine h.foldl_eq' (λx hx y hy z=>?_) cut
 have h1:=hr x hx
 have h2:=hr y hy
 have:=h1.1;have:=h1.2.1;have:=h2.1;have:=h2.2.1
 refine Dp.fT λj hj=>?_
 simp only [Dp.dg]
 by_cases e1:j=x.1.toNat<;>by_cases e2:j=y.1.toNat<;>simp [e1,e2,hj]<;>(try split)<;>(try simp_all)<;>(try omega)
def Co.top(C:Co):Dp:=Ht C.cut (zw C.lg)
theorem Sv(h:(coA cb Y C).p m)(hr:∀ k∈zw C.lg,zj k):MC Tryz.prog us [lp cb] m λu M=>u=C.top.v∧Fr m M []:=by
 have hc:=qy h
 have hl:=kO h
 refine tg (by simp [Tryz.f33]) ?_
 have H:=Hq.refl m []
 simp (disch:=omega) only [go_sem,undef]
 refine qg H λb M f H=>?_
 simp (disch:=omega) only [go_sem,undef,H.fr.xJ hc,Ly.c]
 refine PJ H (sj ((xe ..).fr0 hl H.fr) hr) λu M hR f H=>?_
 refine Exists.elim hR λl' hh=>?_
 have eu:=hh.2
 rw [← Gp C.cut hr hh.1.symm] at eu
 subst eu
 simp (disch:=omega) only [go_sem,undef]
 refine qs H rfl rfl λM f H=>?_
 simp (disch:=omega) only [go_sem,undef,H.cs]
 exact ⟨rfl,H.fr⟩
theorem EK(h:(coA cb Y C).p m)(r:Int):MC Tryz.prog uo [lp cb,.int .i64 r] m λu M=>u=.bool (decide (0≤r∧r < C.n))∧Fr m M []:=by
 have hc:=qy h
 refine tQ (by simp [Tryz.f33]) ?_
 have H:=Hq.refl m []
 simp (disch:=omega) only [go_sem,undef]
 repeat' (first
  | ((first
   | (with_reducible first
    | refine qg H λ_ _ f H2=>?_
    | refine xK H λ_ f H2=>?_
    | refine cQ H λ_ f H2=>?_
    | refine Wy H λ_ f H2=>?_
    | refine eX H λ_ f H2=>?_
    | refine eJ H λ_ f H2=>?_
    | refine eZ H λ_ f H2=>?_)
   | ((with_reducible refine qs H ?hl ?h1 λ_ f H2=>?_);(case hl=>rfl);(case h1=>rfl))
   | ((with_reducible refine zA H ?hl ?h1 λ_ f H2=>?_);(case hl=>rfl);(case h1=>rfl))
   | ((with_reducible refine ZB H ?hl ?h1 λ_ f H2=>?_);(case hl=>rfl);(case h1=>rfl))
   | ((with_reducible refine XT H ?hl ?h1 λ_ f H2=>?_);(case hl=>rfl);(case h1=>rfl))
   | ((with_reducible refine XS H ?hl ?h1 λ_ f H2=>?_);(case hl=>rfl);(case h1=>rfl))
   | ((with_reducible refine XR H ?hl ?h1 λ_ f H2=>?_);(case hl=>rfl);(case h1=>rfl))
   | ((with_reducible refine cV H ?hl ?h1 λ_ f H2=>?_);(case hl=>exact Nat.le_of_ble_eq_true rfl);(case h1=>rfl);(simp only [go_sem] at H2))
   | ((with_reducible refine cK H ?hl ?h1 λ_ f H2=>?_);(case hl=>exact Nat.le_of_ble_eq_true rfl);(case h1=>rfl);(simp only [go_sem] at H2))
   | ((with_reducible refine eV H ?hl ?h1 λ_ f H2=>?_);(case hl=>exact Nat.le_of_ble_eq_true rfl);(case h1=>rfl);(simp only [go_sem] at H2))
   | ((with_reducible refine eK H ?hl ?h1 λ_ f H2=>?_);(case hl=>exact Nat.le_of_ble_eq_true rfl);(case h1=>rfl);(simp only [go_sem] at H2)));clear f;clear H;have H:=H2;clear H2;simp (disch:=omega) only [go_sem,undef,H.cs, *,H.fr.xJ hc,Ly.c])
  | ((with_reducible refine qE (λhq=>?_) (λhq=>?_))<;>(try simp only [Bool.not_true,Bool.not_false] at hq)<;>simp (disch:=omega) only [go_sem,undef,H.cs, *,H.fr.xJ hc,Ly.c])
  | ((with_reducible refine ql (λhq=>?_) (λhq=>?_))<;>simp (disch:=omega) only [go_sem,undef,H.cs, *,H.fr.xJ hc,Ly.c]))
 all_goals (try simp only [decide_eq_true_eq,decide_eq_false_iff_not] at *)
 all_goals exact ⟨by first | rfl | (simp only [Value.bool.injEq,decide_eq_true_eq,eq_comm (a:=true),eq_comm (a:=false),decide_eq_false_iff_not,decide_eq_decide];grind []),H.fr⟩
def Co.note(C:Co)(i:Int×Int)(x:Cel):Co:=if x.st≠0 then { C with xl:=if dh C.xcut i x.cmd x.att.seq then upN i ⟨x.cmd,x.att.seq⟩ C.xl else C.xl } else C
theorem OW(h:(coA cb Y C).p m)(ho:Y.ok C)(i:Int×Int)(x:Cel):CM Tryz.prog rL [lp cb,pv i,x.v] m (coA cb Y C) (CoK cb Y (C.note i x) (.tuple #[])):=by
 have H:=Hq.co h
 by_cases hst:x.st≠0
 ·have hs:C.note i x={ C with xl:=if dh C.xcut i x.cmd x.att.seq then upN i ⟨x.cmd,x.att.seq⟩ C.xl else C.xl }:=if_pos hst
  rw [hs]
  refine aq (by simp [Tryz.f33]) ?_
  simp (disch:=omega) only [go_sem,undef]
  refine qg H λb4 M f H=>?_
  simp (disch:=omega) only [go_sem,undef]
  refine qg H λb5 M f H=>?_
  simp (disch:=omega) only [go_sem,undef,H.cs,Ly.c,qZ hst]
  refine Ux 4 (xT Y.xb Y.xr C.xcut C.xl) (xT Y.xb Y.xr C.xcut (if dh C.xcut i x.cmd x.att.seq then upN i ⟨x.cmd,x.att.seq⟩ C.xl else C.xl)) H (RF (H.at 4 rfl) i x.cmd x.att.seq) rfl rfl rfl λM f H=>?_
  simp (disch:=omega) only [go_sem,undef]
  exact BV (Y':=Y) (C':={ C with xl:=if dh C.xcut i x.cmd x.att.seq then upN i ⟨x.cmd,x.att.seq⟩ C.xl else C.xl }) ⟨ho.lds,ho.wss,ho.wb⟩ rfl H.tail.tail
 ·have hs:C.note i x=C:=if_neg hst
  rw [hs]
  refine aq (by simp [Tryz.f33]) ?_
  simp (disch:=omega) only [go_sem,undef]
  refine qg H λb4 M f H=>?_
  simp (disch:=omega) only [go_sem,undef]
  refine qg H λb5 M f H=>?_
  simp (disch:=omega) only [go_sem,undef,H.cs,Ly.c,qX hst]
  exact BV ho rfl H.tail.tail
end Go.Fw
