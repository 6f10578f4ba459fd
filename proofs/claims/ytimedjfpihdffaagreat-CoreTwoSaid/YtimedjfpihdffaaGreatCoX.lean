import Derived.Test.YtimedjfpihdffaaGreatFxA
import Derived.Test.YtimedjfpihdffaaGreatBa
set_option linter.unusedVariables false
set_option linter.unusedSimpArgs false
set_option maxHeartbeats 16000000
namespace Go.Fw
open Go
theorem Jk{k1 k2:List LK}{x1 y1 x2 y2:List Value}{p q:Prop}[Decidable p][Decidable q](h1:qm k1 x1 y1=some (decide p))(h2:qm k2 x2 y2=some (decide q)):qm (k1++k2) (x1++x2) (y1++y2)=some (decide (p∧q)):=by
 rw [Xn k1 h1,h2,Option.map_some];congr 1;by_cases hp:p<;>by_cases hq:q<;>simp [hp,hq]
theorem qwX(a b:Int):qm [.i .i64] [.int .i64 a] [.int .i64 b]=some (decide (a=b)):=by rw [jo,Hk];simp [QU]
theorem le_s(a b:ByteArray):qm [.s] [.string a] [.string b]=some (decide (a=b)):=by rw [jo,Bk];simp [QU]
structure Lt where
 kind:Int
 src:Int
 dst:Int
 inst:Int×Int
 bal:Int×Int
 cmd:Cmd
 att:Att
 cel:Cel
 deps:Dp
 data:ByteArray
 deriving DecidableEq
def Lt.cs(a:Lt):List Value:=[.int .i64 a.kind]++([.int .i64 a.src]++([.int .i64 a.dst]++(pc a.inst++(pc a.bal++(a.cmd.cs++(a.att.cs++(a.cel.cs++(dv a.deps++([.string a.data])))))))))
abbrev Lt.v(a:Lt):Value:=.agg a.cs.toArray
theorem Lt.len(a:Lt):a.cs.length=51:=rfl
theorem Lt.all(a:Lt):a.cs.take 51=a.cs:=rfl
theorem Lt.KA(a:Lt):(a.cs.drop 0).take 51=a.cs:=rfl
theorem Lt.vO(a:Lt):lay a.cs [] []=some a.cs:=rfl
theorem Lt.Wg(a b:Lt):lay a.cs [(0,51)] [.agg b.cs.toArray]=some b.cs:=rfl
theorem Lt.g0(a:Lt):a.cs[0]?=some (.int .i64 a.kind):=rfl
theorem Lt.s0(a:Lt)(x:Int):a.cs.set 0 (.int .i64 x)=({ a with kind:=x }:Lt).cs:=rfl
theorem Lt.g1(a:Lt):a.cs[1]?=some (.int .i64 a.src):=rfl
theorem Lt.s1(a:Lt)(x:Int):a.cs.set 1 (.int .i64 x)=({ a with src:=x }:Lt).cs:=rfl
theorem Lt.g2(a:Lt):a.cs[2]?=some (.int .i64 a.dst):=rfl
theorem Lt.s2(a:Lt)(x:Int):a.cs.set 2 (.int .i64 x)=({ a with dst:=x }:Lt).cs:=rfl
theorem Lt.g3(a:Lt):a.cs[3]?=some (.int .i64 a.inst.1):=rfl
theorem Lt.g4(a:Lt):a.cs[4]?=some (.int .i64 a.inst.2):=rfl
theorem Lt.s3(a:Lt)(x:Int):a.cs.set 3 (.int .i64 x)=({ a with inst:=(x,a.inst.2) }:Lt).cs:=rfl
theorem Lt.s4(a:Lt)(x:Int):a.cs.set 4 (.int .i64 x)=({ a with inst:=(a.inst.1,x) }:Lt).cs:=rfl
theorem Lt.Bt(a:Lt):(a.cs.drop 3).take 2=pc a.inst:=rfl
theorem Lt.CY(a:Lt)(x:Int×Int):a.cs.take 3++(pc x++a.cs.drop 5)=({ a with inst:=x }:Lt).cs:=rfl
theorem Lt.g5(a:Lt):a.cs[5]?=some (.int .i64 a.bal.1):=rfl
theorem Lt.g6(a:Lt):a.cs[6]?=some (.int .i64 a.bal.2):=rfl
theorem Lt.s5(a:Lt)(x:Int):a.cs.set 5 (.int .i64 x)=({ a with bal:=(x,a.bal.2) }:Lt).cs:=rfl
theorem Lt.s6(a:Lt)(x:Int):a.cs.set 6 (.int .i64 x)=({ a with bal:=(a.bal.1,x) }:Lt).cs:=rfl
theorem Lt.HE(a:Lt):(a.cs.drop 5).take 2=pc a.bal:=rfl
theorem Lt.Ix(a:Lt)(x:Int×Int):a.cs.take 5++(pc x++a.cs.drop 7)=({ a with bal:=x }:Lt).cs:=rfl
theorem Lt.g7(a:Lt):a.cs[7]?=some (.int .i64 a.cmd.kind):=rfl
theorem Lt.g8(a:Lt):a.cs[8]?=some (.int .i64 a.cmd.client):=rfl
theorem Lt.g9(a:Lt):a.cs[9]?=some (.int .i64 a.cmd.seq):=rfl
theorem Lt.g10(a:Lt):a.cs[10]?=some (.string a.cmd.key):=rfl
theorem Lt.g11(a:Lt):a.cs[11]?=some (.string a.cmd.fin):=rfl
theorem Lt.g12(a:Lt):a.cs[12]?=some (.string a.cmd.old):=rfl
theorem Lt.g13(a:Lt):a.cs[13]?=some (.string a.cmd.val):=rfl
theorem Lt.Qg(a:Lt):(a.cs.drop 7).take 7=a.cmd.cs:=rfl
theorem Lt.VS(a:Lt)(x:Cmd):a.cs.take 7++(x.cs++a.cs.drop 14)=({ a with cmd:=x }:Lt).cs:=rfl
theorem Lt.g14(a:Lt):a.cs[14]?=some (.int .i64 a.att.seq):=rfl
theorem Lt.Ya(a:Lt):(a.cs.drop 14).take 8=a.att.cs:=rfl
theorem Lt.nN(a:Lt)(x:Att):a.cs.take 14++(x.cs++a.cs.drop 22)=({ a with att:=x }:Lt).cs:=rfl
theorem Lt.g22(a:Lt):a.cs[22]?=some (.int .i64 a.cel.st):=rfl
theorem Lt.HD(a:Lt):(a.cs.drop 22).take 21=a.cel.cs:=rfl
theorem Lt.Ij(a:Lt)(x:Cel):a.cs.take 22++(x.cs++a.cs.drop 43)=({ a with cel:=x }:Lt).cs:=rfl
theorem Lt.Bu(a:Lt):(a.cs.drop 43).take 7=dv a.deps:=rfl
theorem Lt.qjr(a:Lt)(x:Dp):a.cs.take 43++(dv x++a.cs.drop 50)=({ a with deps:=x }:Lt).cs:=rfl
theorem Lt.g50(a:Lt):a.cs[50]?=some (.string a.data):=rfl
theorem Lt.s50(a:Lt)(x:ByteArray):a.cs.set 50 (.string x)=({ a with data:=x }:Lt).cs:=rfl
abbrev Lt.zero:Lt:=⟨0,0,0,(0,0),(0,0),Cmd.zero,Att.zero,Cel.zero,Dp.zero,noB⟩
theorem Lt.one(a:Lt):a.cs.all Value.oneCell'=true:=rfl
theorem Lt_fa:Value.agg (List.toArray [.int .i64 0,.int .i64 0,.int .i64 0,.int .i64 0,.int .i64 0,.int .i64 0,.int .i64 0,.int .i64 0,.int .i64 0,.int .i64 0,.string noB,.string noB,.string noB,.string noB,.int .i64 0,.int .i64 0,.int .i64 0,.int .i64 0,.int .i64 0,.int .i64 0,.int .i64 0,.int .i64 0,.int .i64 0,.int .i64 0,.int .i64 0,.int .i64 0,.int .i64 0,.int .i64 0,.int .i64 0,.int .i64 0,.string noB,.string noB,.string noB,.string noB,.int .i64 0,.int .i64 0,.int .i64 0,.int .i64 0,.int .i64 0,.int .i64 0,.int .i64 0,.int .i64 0,.bool false,.int .i64 0,.int .i64 0,.int .i64 0,.int .i64 0,.int .i64 0,.int .i64 0,.int .i64 0,.string noB])=.agg (Lt.zero.cs).toArray:=rfl
theorem Lt_fl(ps:List (Nat×Nat))(vs:List Value):lay [.int .i64 0,.int .i64 0,.int .i64 0,.int .i64 0,.int .i64 0,.int .i64 0,.int .i64 0,.int .i64 0,.int .i64 0,.int .i64 0,.string noB,.string noB,.string noB,.string noB,.int .i64 0,.int .i64 0,.int .i64 0,.int .i64 0,.int .i64 0,.int .i64 0,.int .i64 0,.int .i64 0,.int .i64 0,.int .i64 0,.int .i64 0,.int .i64 0,.int .i64 0,.int .i64 0,.int .i64 0,.int .i64 0,.string noB,.string noB,.string noB,.string noB,.int .i64 0,.int .i64 0,.int .i64 0,.int .i64 0,.int .i64 0,.int .i64 0,.int .i64 0,.int .i64 0,.bool false,.int .i64 0,.int .i64 0,.int .i64 0,.int .i64 0,.int .i64 0,.int .i64 0,.int .i64 0,.string noB] ps vs=lay (Lt.zero.cs) ps vs:=rfl
theorem Lt_fc(t:TypeId)(fr:Nat×Nat):Obj.cells (List.toArray [.int .i64 0,.int .i64 0,.int .i64 0,.int .i64 0,.int .i64 0,.int .i64 0,.int .i64 0,.int .i64 0,.int .i64 0,.int .i64 0,.string noB,.string noB,.string noB,.string noB,.int .i64 0,.int .i64 0,.int .i64 0,.int .i64 0,.int .i64 0,.int .i64 0,.int .i64 0,.int .i64 0,.int .i64 0,.int .i64 0,.int .i64 0,.int .i64 0,.int .i64 0,.int .i64 0,.int .i64 0,.int .i64 0,.string noB,.string noB,.string noB,.string noB,.int .i64 0,.int .i64 0,.int .i64 0,.int .i64 0,.int .i64 0,.int .i64 0,.int .i64 0,.int .i64 0,.bool false,.int .i64 0,.int .i64 0,.int .i64 0,.int .i64 0,.int .i64 0,.int .i64 0,.int .i64 0,.string noB]) t fr=.cells (Lt.zero.cs).toArray t fr:=rfl
attribute [go_sem ↓] Lt_fa Lt_fl Lt_fc
theorem Lt.eq(c d:Lt):qm [.i .i64,.i .i64,.i .i64,.i .i64,.i .i64,.i .i64,.i .i64,.i .i64,.i .i64,.i .i64,.s,.s,.s,.s,.i .i64,.i .i64,.i .i64,.i .i64,.i .i64,.i .i64,.i .i64,.i .i64,.i .i64,.i .i64,.i .i64,.i .i64,.i .i64,.i .i64,.i .i64,.i .i64,.s,.s,.s,.s,.i .i64,.i .i64,.i .i64,.i .i64,.i .i64,.i .i64,.i .i64,.i .i64,.b,.i .i64,.i .i64,.i .i64,.i .i64,.i .i64,.i .i64,.i .i64,.s] c.cs d.cs=some (decide (c=d)):=by
 refine (show qm _ _ _=_ from (Jk (qwX c.kind d.kind) (Jk (qwX c.src d.src) (Jk (qwX c.dst d.dst) (Jk (GI c.inst d.inst) (Jk (GI c.bal d.bal) (Jk (Cmd.eq c.cmd d.cmd) (Jk (Att.eq c.att d.att) (Jk (Cel.eq c.cel d.cel) (Jk (qxp c.deps d.deps) (le_s c.data d.data))))))))))).trans ?_
 congr 1;rw [Bool.eq_iff_iff];cases c;cases d;simp [and_assoc]
attribute [go_sem] Lt.len Lt.all Lt.KA Lt.vO Lt.Wg Lt.g0 Lt.s0 Lt.g1 Lt.s1 Lt.g2 Lt.s2 Lt.g3 Lt.g4 Lt.s3 Lt.s4 Lt.Bt Lt.CY Lt.g5 Lt.g6 Lt.s5 Lt.s6 Lt.HE Lt.Ix Lt.g7 Lt.g8 Lt.g9 Lt.g10 Lt.g11 Lt.g12 Lt.g13 Lt.Qg Lt.VS Lt.g14 Lt.Ya Lt.nN Lt.g22 Lt.HD Lt.Ij Lt.Bu Lt.qjr Lt.g50 Lt.s50 Lt.one Lt.eq
structure qC where
 cmd:Cmd
 seq:Int
 deriving DecidableEq
def qC.cs(a:qC):List Value:=a.cmd.cs++([.int .i64 a.seq])
abbrev qC.v(a:qC):Value:=.agg a.cs.toArray
theorem qC.len(a:qC):a.cs.length=8:=rfl
theorem qC.all(a:qC):a.cs.take 8=a.cs:=rfl
theorem qC.KA(a:qC):(a.cs.drop 0).take 8=a.cs:=rfl
theorem qC.vO(a:qC):lay a.cs [] []=some a.cs:=rfl
theorem qC.Wg(a b:qC):lay a.cs [(0,8)] [.agg b.cs.toArray]=some b.cs:=rfl
theorem qC.g0(a:qC):a.cs[0]?=some (.int .i64 a.cmd.kind):=rfl
theorem qC.g1(a:qC):a.cs[1]?=some (.int .i64 a.cmd.client):=rfl
theorem qC.g2(a:qC):a.cs[2]?=some (.int .i64 a.cmd.seq):=rfl
theorem qC.g3(a:qC):a.cs[3]?=some (.string a.cmd.key):=rfl
theorem qC.g4(a:qC):a.cs[4]?=some (.string a.cmd.fin):=rfl
theorem qC.g5(a:qC):a.cs[5]?=some (.string a.cmd.old):=rfl
theorem qC.g6(a:qC):a.cs[6]?=some (.string a.cmd.val):=rfl
theorem qC.Qg(a:qC):(a.cs.drop 0).take 7=a.cmd.cs:=rfl
theorem qC.qQt(a:qC):a.cs.take 7=a.cmd.cs:=rfl
theorem qC.VS(a:qC)(x:Cmd):x.cs++a.cs.drop 7=({ a with cmd:=x }:qC).cs:=rfl
theorem qC.g7(a:qC):a.cs[7]?=some (.int .i64 a.seq):=rfl
theorem qC.s7(a:qC)(x:Int):a.cs.set 7 (.int .i64 x)=({ a with seq:=x }:qC).cs:=rfl
abbrev qC.zero:qC:=⟨Cmd.zero,0⟩
theorem qC.one(a:qC):a.cs.all Value.oneCell'=true:=rfl
theorem qkd:Value.agg (List.toArray [.int .i64 0,.int .i64 0,.int .i64 0,.string noB,.string noB,.string noB,.string noB,.int .i64 0])=.agg (qC.zero.cs).toArray:=rfl
theorem qkb(ps:List (Nat×Nat))(vs:List Value):lay [.int .i64 0,.int .i64 0,.int .i64 0,.string noB,.string noB,.string noB,.string noB,.int .i64 0] ps vs=lay (qC.zero.cs) ps vs:=rfl
theorem qkc(t:TypeId)(fr:Nat×Nat):Obj.cells (List.toArray [.int .i64 0,.int .i64 0,.int .i64 0,.string noB,.string noB,.string noB,.string noB,.int .i64 0]) t fr=.cells (qC.zero.cs).toArray t fr:=rfl
attribute [go_sem ↓] qkd qkb qkc
attribute [go_sem] qC.len qC.all qC.KA qC.vO qC.Wg qC.g0 qC.g1 qC.g2 qC.g3 qC.g4 qC.g5 qC.g6 qC.Qg qC.qQt qC.VS qC.g7 qC.s7 qC.one
structure Sd where
 rep:Int
 cel:Cel
 deriving DecidableEq
def Sd.cs(a:Sd):List Value:=[.int .i64 a.rep]++(a.cel.cs)
theorem Sd.len(a:Sd):a.cs.length=22:=rfl
theorem Sd.all(a:Sd):a.cs.take 22=a.cs:=rfl
theorem Sd.KA(a:Sd):(a.cs.drop 0).take 22=a.cs:=rfl
theorem Sd.vO(a:Sd):lay a.cs [] []=some a.cs:=rfl
theorem Sd.Wg(a b:Sd):lay a.cs [(0,22)] [.agg b.cs.toArray]=some b.cs:=rfl
theorem Sd.g0(a:Sd):a.cs[0]?=some (.int .i64 a.rep):=rfl
theorem Sd.s0(a:Sd)(x:Int):a.cs.set 0 (.int .i64 x)=({ a with rep:=x }:Sd).cs:=rfl
theorem Sd.g1(a:Sd):a.cs[1]?=some (.int .i64 a.cel.st):=rfl
theorem Sd.HD(a:Sd):(a.cs.drop 1).take 21=a.cel.cs:=rfl
theorem Sd.Ij(a:Sd)(x:Cel):a.cs.take 1++(x.cs++a.cs.drop 22)=({ a with cel:=x }:Sd).cs:=rfl
abbrev Sd.zero:Sd:=⟨0,Cel.zero⟩
theorem Sd.one(a:Sd):a.cs.all Value.oneCell'=true:=rfl
theorem Sd_fa:Value.agg (List.toArray [.int .i64 0,.int .i64 0,.int .i64 0,.int .i64 0,.int .i64 0,.int .i64 0,.int .i64 0,.int .i64 0,.int .i64 0,.string noB,.string noB,.string noB,.string noB,.int .i64 0,.int .i64 0,.int .i64 0,.int .i64 0,.int .i64 0,.int .i64 0,.int .i64 0,.int .i64 0,.bool false])=.agg (Sd.zero.cs).toArray:=rfl
theorem Sd_fl(ps:List (Nat×Nat))(vs:List Value):lay [.int .i64 0,.int .i64 0,.int .i64 0,.int .i64 0,.int .i64 0,.int .i64 0,.int .i64 0,.int .i64 0,.int .i64 0,.string noB,.string noB,.string noB,.string noB,.int .i64 0,.int .i64 0,.int .i64 0,.int .i64 0,.int .i64 0,.int .i64 0,.int .i64 0,.int .i64 0,.bool false] ps vs=lay (Sd.zero.cs) ps vs:=rfl
theorem Sd_fc(t:TypeId)(fr:Nat×Nat):Obj.cells (List.toArray [.int .i64 0,.int .i64 0,.int .i64 0,.int .i64 0,.int .i64 0,.int .i64 0,.int .i64 0,.int .i64 0,.int .i64 0,.string noB,.string noB,.string noB,.string noB,.int .i64 0,.int .i64 0,.int .i64 0,.int .i64 0,.int .i64 0,.int .i64 0,.int .i64 0,.int .i64 0,.bool false]) t fr=.cells (Sd.zero.cs).toArray t fr:=rfl
attribute [go_sem ↓] Sd_fa Sd_fl Sd_fc
attribute [go_sem] Sd.len Sd.all Sd.KA Sd.vO Sd.Wg Sd.g0 Sd.s0 Sd.g1 Sd.HD Sd.Ij Sd.one
structure Spn where
 lo:ByteArray
 hi:ByteArray
 deriving DecidableEq
def Spn.cs(a:Spn):List Value:=[.string a.lo]++([.string a.hi])
abbrev Spn.v(a:Spn):Value:=.agg a.cs.toArray
theorem Spn.len(a:Spn):a.cs.length=2:=rfl
theorem Spn.all(a:Spn):a.cs.take 2=a.cs:=rfl
theorem Spn.KA(a:Spn):(a.cs.drop 0).take 2=a.cs:=rfl
theorem Spn.vO(a:Spn):lay a.cs [] []=some a.cs:=rfl
theorem Spn.Wg(a b:Spn):lay a.cs [(0,2)] [.agg b.cs.toArray]=some b.cs:=rfl
theorem Spn.g0(a:Spn):a.cs[0]?=some (.string a.lo):=rfl
theorem Spn.s0(a:Spn)(x:ByteArray):a.cs.set 0 (.string x)=({ a with lo:=x }:Spn).cs:=rfl
theorem Spn.g1(a:Spn):a.cs[1]?=some (.string a.hi):=rfl
theorem Spn.s1(a:Spn)(x:ByteArray):a.cs.set 1 (.string x)=({ a with hi:=x }:Spn).cs:=rfl
abbrev Spn.zero:Spn:=⟨noB,noB⟩
theorem Spn.one(a:Spn):a.cs.all Value.oneCell'=true:=rfl
theorem qJH:Value.agg (List.toArray [.string noB,.string noB])=.agg (Spn.zero.cs).toArray:=rfl
theorem qJF(ps:List (Nat×Nat))(vs:List Value):lay [.string noB,.string noB] ps vs=lay (Spn.zero.cs) ps vs:=rfl
theorem qJG(t:TypeId)(fr:Nat×Nat):Obj.cells (List.toArray [.string noB,.string noB]) t fr=.cells (Spn.zero.cs).toArray t fr:=rfl
attribute [go_sem ↓] qJH qJF qJG
attribute [go_sem] Spn.len Spn.all Spn.KA Spn.vO Spn.Wg Spn.g0 Spn.s0 Spn.g1 Spn.s1 Spn.one
structure Wsh where
 id:Int×Int
 ticks:Int
 told:Int×Int
 deriving DecidableEq
def Wsh.cs(a:Wsh):List Value:=pc a.id++([.int .i64 a.ticks]++(pc a.told))
theorem Wsh.len(a:Wsh):a.cs.length=5:=rfl
theorem Wsh.all(a:Wsh):a.cs.take 5=a.cs:=rfl
theorem Wsh.KA(a:Wsh):(a.cs.drop 0).take 5=a.cs:=rfl
theorem Wsh.vO(a:Wsh):lay a.cs [] []=some a.cs:=rfl
theorem Wsh.Wg(a b:Wsh):lay a.cs [(0,5)] [.agg b.cs.toArray]=some b.cs:=rfl
theorem Wsh.g0(a:Wsh):a.cs[0]?=some (.int .i64 a.id.1):=rfl
theorem Wsh.g1(a:Wsh):a.cs[1]?=some (.int .i64 a.id.2):=rfl
theorem Wsh.s0(a:Wsh)(x:Int):a.cs.set 0 (.int .i64 x)=({ a with id:=(x,a.id.2) }:Wsh).cs:=rfl
theorem Wsh.s1(a:Wsh)(x:Int):a.cs.set 1 (.int .i64 x)=({ a with id:=(a.id.1,x) }:Wsh).cs:=rfl
theorem Wsh.PB(a:Wsh):(a.cs.drop 0).take 2=pc a.id:=rfl
theorem Wsh.qzr(a:Wsh):a.cs.take 2=pc a.id:=rfl
theorem Wsh.Rk(a:Wsh)(x:Int×Int):pc x++a.cs.drop 2=({ a with id:=x }:Wsh).cs:=rfl
theorem Wsh.g2(a:Wsh):a.cs[2]?=some (.int .i64 a.ticks):=rfl
theorem Wsh.s2(a:Wsh)(x:Int):a.cs.set 2 (.int .i64 x)=({ a with ticks:=x }:Wsh).cs:=rfl
theorem Wsh.g3(a:Wsh):a.cs[3]?=some (.int .i64 a.told.1):=rfl
theorem Wsh.g4(a:Wsh):a.cs[4]?=some (.int .i64 a.told.2):=rfl
theorem Wsh.s3(a:Wsh)(x:Int):a.cs.set 3 (.int .i64 x)=({ a with told:=(x,a.told.2) }:Wsh).cs:=rfl
theorem Wsh.s4(a:Wsh)(x:Int):a.cs.set 4 (.int .i64 x)=({ a with told:=(a.told.1,x) }:Wsh).cs:=rfl
theorem Wsh.qzO(a:Wsh):(a.cs.drop 3).take 2=pc a.told:=rfl
theorem Wsh.qjn(a:Wsh)(x:Int×Int):a.cs.take 3++(pc x++a.cs.drop 5)=({ a with told:=x }:Wsh).cs:=rfl
abbrev Wsh.zero:Wsh:=⟨(0,0),0,(0,0)⟩
theorem Wsh.one(a:Wsh):a.cs.all Value.oneCell'=true:=rfl
theorem qJE:Value.agg (List.toArray [.int .i64 0,.int .i64 0,.int .i64 0,.int .i64 0,.int .i64 0])=.agg (Wsh.zero.cs).toArray:=rfl
theorem qJC(ps:List (Nat×Nat))(vs:List Value):lay [.int .i64 0,.int .i64 0,.int .i64 0,.int .i64 0,.int .i64 0] ps vs=lay (Wsh.zero.cs) ps vs:=rfl
theorem qJD(t:TypeId)(fr:Nat×Nat):Obj.cells (List.toArray [.int .i64 0,.int .i64 0,.int .i64 0,.int .i64 0,.int .i64 0]) t fr=.cells (Wsh.zero.cs).toArray t fr:=rfl
attribute [go_sem ↓] qJE qJC qJD
attribute [go_sem] Wsh.len Wsh.all Wsh.KA Wsh.vO Wsh.Wg Wsh.g0 Wsh.g1 Wsh.s0 Wsh.s1 Wsh.PB Wsh.qzr Wsh.Rk Wsh.g2 Wsh.s2 Wsh.g3 Wsh.g4 Wsh.s3 Wsh.s4 Wsh.qzO Wsh.qjn Wsh.one
structure Prt where
 inst:Bool
 bal:Bool
 cmd:Bool
 att:Bool
 cel:Bool
 deps:Bool
 data:Bool
 deriving DecidableEq
def Prt.cs(a:Prt):List Value:=[.bool a.inst]++([.bool a.bal]++([.bool a.cmd]++([.bool a.att]++([.bool a.cel]++([.bool a.deps]++([.bool a.data]))))))
abbrev Prt.v(a:Prt):Value:=.agg a.cs.toArray
theorem Prt.len(a:Prt):a.cs.length=7:=rfl
theorem Prt.all(a:Prt):a.cs.take 7=a.cs:=rfl
theorem Prt.KA(a:Prt):(a.cs.drop 0).take 7=a.cs:=rfl
theorem Prt.vO(a:Prt):lay a.cs [] []=some a.cs:=rfl
theorem Prt.Wg(a b:Prt):lay a.cs [(0,7)] [.agg b.cs.toArray]=some b.cs:=rfl
theorem Prt.g0(a:Prt):a.cs[0]?=some (.bool a.inst):=rfl
theorem Prt.s0(a:Prt)(x:Bool):a.cs.set 0 (.bool x)=({ a with inst:=x }:Prt).cs:=rfl
theorem Prt.g1(a:Prt):a.cs[1]?=some (.bool a.bal):=rfl
theorem Prt.s1(a:Prt)(x:Bool):a.cs.set 1 (.bool x)=({ a with bal:=x }:Prt).cs:=rfl
theorem Prt.g2(a:Prt):a.cs[2]?=some (.bool a.cmd):=rfl
theorem Prt.s2(a:Prt)(x:Bool):a.cs.set 2 (.bool x)=({ a with cmd:=x }:Prt).cs:=rfl
theorem Prt.g3(a:Prt):a.cs[3]?=some (.bool a.att):=rfl
theorem Prt.s3(a:Prt)(x:Bool):a.cs.set 3 (.bool x)=({ a with att:=x }:Prt).cs:=rfl
theorem Prt.g4(a:Prt):a.cs[4]?=some (.bool a.cel):=rfl
theorem Prt.s4(a:Prt)(x:Bool):a.cs.set 4 (.bool x)=({ a with cel:=x }:Prt).cs:=rfl
theorem Prt.g5(a:Prt):a.cs[5]?=some (.bool a.deps):=rfl
theorem Prt.s5(a:Prt)(x:Bool):a.cs.set 5 (.bool x)=({ a with deps:=x }:Prt).cs:=rfl
theorem Prt.g6(a:Prt):a.cs[6]?=some (.bool a.data):=rfl
theorem Prt.s6(a:Prt)(x:Bool):a.cs.set 6 (.bool x)=({ a with data:=x }:Prt).cs:=rfl
abbrev Prt.zero:Prt:=⟨false,false,false,false,false,false,false⟩
theorem Prt.one(a:Prt):a.cs.all Value.oneCell'=true:=rfl
theorem qJM:Value.agg (List.toArray [.bool false,.bool false,.bool false,.bool false,.bool false,.bool false,.bool false])=.agg (Prt.zero.cs).toArray:=rfl
theorem qJI(ps:List (Nat×Nat))(vs:List Value):lay [.bool false,.bool false,.bool false,.bool false,.bool false,.bool false,.bool false] ps vs=lay (Prt.zero.cs) ps vs:=rfl
theorem qJL(t:TypeId)(fr:Nat×Nat):Obj.cells (List.toArray [.bool false,.bool false,.bool false,.bool false,.bool false,.bool false,.bool false]) t fr=.cells (Prt.zero.cs).toArray t fr:=rfl
attribute [go_sem ↓] qJM qJI qJL
attribute [go_sem] Prt.len Prt.all Prt.KA Prt.vO Prt.Wg Prt.g0 Prt.s0 Prt.g1 Prt.s1 Prt.g2 Prt.s2 Prt.g3 Prt.s3 Prt.g4 Prt.s4 Prt.g5 Prt.s5 Prt.g6 Prt.s6 Prt.one
end Go.Fw
namespace Go.Fw
open Go.Proofs
variable {m m0 M:Mem} {S:List Nat} {L:List As}
theorem Spn.qZH(c:Spn)(a b:ByteArray):lay c.cs [(0,1),(1,1)] [.string a,.string b]=some (Spn.mk a b).cs:=rfl
attribute [go_sem] Spn.qZH
abbrev Bl(k hi:ByteArray):Prop:=hi=noB∨Op.bytesLess k.data.toList hi.data.toList=true
def Spn.empty(s:Spn):Prop:=¬ Bl s.lo s.hi
instance (s:Spn):Decidable s.empty:=by unfold Spn.empty;exact inferInstance
def rR(a b:Spn):Prop:=¬ a.empty∧¬ b.empty∧Bl a.lo b.hi∧Bl b.lo a.hi
instance (a b:Spn):Decidable (rR a b):=by unfold rR;exact inferInstance
def Cmd.has(c:Cmd):Bool:=decide (c.kind=1∨c.kind=2∨c.kind=3∨c.kind=4∨c.kind=5)
def Cmd.span(c:Cmd):Spn:=if c.kind=1∨c.kind=2∨c.kind=3∨c.kind=4 then ⟨c.key,c.key++⟨#[0]⟩⟩ else if c.kind=5 then ⟨c.key,c.fin⟩ else Spn.zero
abbrev Cmd.writes(c:Cmd):Prop:=c.kind=2∨c.kind=3∨c.kind=4
def Qj(a b:Cmd):Prop:=a.has=true∧b.has=true∧(a.client=b.client∨(a.writes∨b.writes)∧rR a.span b.span)
instance (a b:Cmd):Decidable (Qj a b):=by unfold Qj;exact inferInstance
theorem qvf{m:Mem}(a b:ByteArray):rd (.str .lss) [.string a,.string b] m=some (.bool (Op.bytesLess a.data.toList b.data.toList)):=rfl
theorem qvg{m:Mem}(a:ByteArray)(h:a.size≤1000):rd (.str .add) [.string a,.string ⟨#[0]⟩] m=some (.string (a++⟨#[0]⟩)):=by
 show (if a.size+1≤9223372036854775807 then _ else _)=_
 rw [if_pos (by omega)]
attribute [go_sem] qvf qvg
theorem SS(k hi:ByteArray)(m:Mem):MC Tryz.prog Ib [.string k,.string hi] m λv m'=>v=.bool (decide (Bl k hi))∧Fr m m' []:=by
 refine EC (by simp [Tryz.f33]) ?_
 have H:=Hp.refl m []
 simp (disch:=omega) only [go_sem,undef]
 repeat' ((first
  | refine zh H λ_ _ _ _ H=>?_
  | (refine qE (λhq=>?_) (λhq=>?_)<;>(try simp only [Bool.not_true,Bool.not_false] at hq))
  | refine ql (λhq=>?_) (λhq=>?_)
  | refine wr0 H λ_ _ H=>?_
  | refine wr1 H λ_ _ H=>?_
  | refine wr2 H λ_ _ H=>?_
  | refine wr3 H λ_ _ H=>?_
  | refine JG H rfl rfl λ_ _ H=>?_
  | refine XU H rfl rfl λ_ _ H=>?_)<;>simp (disch:=omega) only [go_sem,undef,H.hs, *])
 all_goals (try simp only [decide_eq_true_eq,decide_eq_false_iff_not] at *)
 all_goals exact ⟨by first | rfl | (simp only [Value.bool.injEq,decide_eq_true_eq,eq_comm (a:=true),eq_comm (a:=false),decide_eq_false_iff_not,decide_eq_decide];grind []),H.fr⟩
theorem qyq(s:Spn)(m:Mem):MC Tryz.prog Ie [s.v] m λv m'=>v=.bool (decide s.empty)∧Fr m m' []:=by
 refine EI (by simp [Tryz.f33]) ?_
 have H:=Hp.refl m []
 simp (disch:=omega) only [go_sem,undef]
 repeat' ((first
  | refine zh H λ_ _ _ _ H=>?_
  | refine zR H (SS _ _ _) λ_ _ H=>?_
  | (refine qE (λhq=>?_) (λhq=>?_)<;>(try simp only [Bool.not_true,Bool.not_false] at hq))
  | refine ql (λhq=>?_) (λhq=>?_)
  | refine wr0 H λ_ _ H=>?_
  | refine wr1 H λ_ _ H=>?_
  | refine wr2 H λ_ _ H=>?_
  | refine wr3 H λ_ _ H=>?_
  | refine JG H rfl rfl λ_ _ H=>?_
  | refine XU H rfl rfl λ_ _ H=>?_)<;>simp (disch:=omega) only [go_sem,undef,H.hs, *])
 all_goals (try simp only [decide_eq_true_eq,decide_eq_false_iff_not] at *)
 all_goals exact ⟨by first | rfl | (simp only [Value.bool.injEq,decide_eq_true_eq,eq_comm (a:=true),eq_comm (a:=false),decide_eq_false_iff_not,decide_eq_decide];grind [Spn.empty]),H.fr⟩
theorem qwQ(a b:Spn)(m:Mem):MC Tryz.prog Ic [a.v,b.v] m λv m'=>v=.bool (decide (rR a b))∧Fr m m' []:=by
 refine EF (by simp [Tryz.f33]) ?_
 have H:=Hp.refl m []
 simp (disch:=omega) only [go_sem,undef]
 repeat' ((first
  | refine zh H λ_ _ _ _ H=>?_
  | refine zR H (qyq _ _) λ_ _ H=>?_
  | refine zR H (SS _ _ _) λ_ _ H=>?_
  | (refine qE (λhq=>?_) (λhq=>?_)<;>(try simp only [Bool.not_true,Bool.not_false] at hq))
  | refine ql (λhq=>?_) (λhq=>?_)
  | refine wr0 H λ_ _ H=>?_
  | refine wr1 H λ_ _ H=>?_
  | refine wr2 H λ_ _ H=>?_
  | refine wr3 H λ_ _ H=>?_
  | refine JG H rfl rfl λ_ _ H=>?_
  | refine XU H rfl rfl λ_ _ H=>?_)<;>simp (disch:=omega) only [go_sem,undef,H.hs, *])
 all_goals (try simp only [decide_eq_true_eq,decide_eq_false_iff_not] at *)
 all_goals exact ⟨by first | rfl | (simp only [Value.bool.injEq,decide_eq_true_eq,eq_comm (a:=true),eq_comm (a:=false),decide_eq_false_iff_not,decide_eq_decide];grind [rR]),H.fr⟩
theorem qzk(c:Cmd)(m:Mem):MC Tryz.prog Ir [c.v] m λv m'=>v=.bool (decide c.writes)∧Fr m m' []:=by
 refine Ge (by simp [Tryz.f33]) ?_
 have H:=Hp.refl m []
 simp (disch:=omega) only [go_sem,undef]
 repeat' ((first
  | refine zh H λ_ _ _ _ H=>?_
  | (refine qE (λhq=>?_) (λhq=>?_)<;>(try simp only [Bool.not_true,Bool.not_false] at hq))
  | refine ql (λhq=>?_) (λhq=>?_)
  | refine wr0 H λ_ _ H=>?_
  | refine wr1 H λ_ _ H=>?_
  | refine wr2 H λ_ _ H=>?_
  | refine wr3 H λ_ _ H=>?_
  | refine JG H rfl rfl λ_ _ H=>?_
  | refine XU H rfl rfl λ_ _ H=>?_)<;>simp (disch:=omega) only [go_sem,undef,H.hs, *])
 all_goals (try simp only [decide_eq_true_eq,decide_eq_false_iff_not] at *)
 all_goals exact ⟨by first | rfl | (simp only [Value.bool.injEq,decide_eq_true_eq,eq_comm (a:=true),eq_comm (a:=false),decide_eq_false_iff_not,decide_eq_decide];grind []),H.fr⟩
theorem of_s(k:ByteArray)(hk:k.size≤1000)(m:Mem):MC Tryz.prog qqV [.string k] m λv m'=>v=(Spn.mk k (k++⟨#[0]⟩)).v∧Fr m m' []:=by
 refine PG (by simp [Tryz.f33]) ?_
 have H:=Hp.refl m []
 simp (disch:=omega) only [go_sem,undef]
 repeat' ((first
  | refine zh H λ_ _ _ _ H=>?_
  | (refine qE (λhq=>?_) (λhq=>?_)<;>(try simp only [Bool.not_true,Bool.not_false] at hq))
  | refine ql (λhq=>?_) (λhq=>?_)
  | refine wr0 H λ_ _ H=>?_
  | refine wr1 H λ_ _ H=>?_
  | refine wr2 H λ_ _ H=>?_
  | refine wr3 H λ_ _ H=>?_
  | refine JG H rfl rfl λ_ _ H=>?_
  | refine XU H rfl rfl λ_ _ H=>?_)<;>simp (disch:=omega) only [go_sem,undef,H.hs, *])
 all_goals exact ⟨rfl,H.fr⟩
theorem qxy(c:Cmd)(hk:c.key.size≤1000)(m:Mem):MC Tryz.prog Rc [c.v] m λv m'=>v=.tuple #[c.span.v,.bool c.has]∧Fr m m' []:=by
 refine PQ (by simp [Tryz.f33]) ?_
 have H:=Hp.refl m []
 simp (disch:=omega) only [go_sem,undef]
 repeat' ((first
  | refine zh H λ_ _ _ _ H=>?_
  | refine zR H (of_s _ hk _) λ_ _ H=>?_
  | (refine qE (λhq=>?_) (λhq=>?_)<;>(try simp only [Bool.not_true,Bool.not_false] at hq))
  | refine ql (λhq=>?_) (λhq=>?_)
  | refine wr0 H λ_ _ H=>?_
  | refine wr1 H λ_ _ H=>?_
  | refine wr2 H λ_ _ H=>?_
  | refine wr3 H λ_ _ H=>?_
  | refine JG H rfl rfl λ_ _ H=>?_
  | refine XU H rfl rfl λ_ _ H=>?_)<;>simp (disch:=omega) only [go_sem,undef,H.hs, *])
 all_goals (try simp only [decide_eq_true_eq,decide_eq_false_iff_not] at *)
 all_goals exact ⟨by simp [Cmd.span,Cmd.has, *],H.fr⟩
theorem rJ(a b:Cmd)(hk:a.key.size≤1000)(hk2:b.key.size≤1000)(m:Mem):MC Tryz.prog Nb [a.v,b.v] m λv m'=>v=.bool (decide (Qj a b))∧Fr m m' []:=by
 refine LP (by simp [Tryz.f33]) ?_
 have H:=Hq.refl m []
 simp (disch:=omega) only [go_sem,undef]
 repeat' (first
  | ((first
   | (with_reducible first
    | refine qg H λ_ _ f H2=>?_
    | refine xK H λ_ f H2=>?_
    | refine cQ H λ_ f H2=>?_
    | refine Wy H λ_ f H2=>?_
    | refine eX H λ_ f H2=>?_
    | refine eJ H λ_ f H2=>?_
    | refine eZ H λ_ f H2=>?_
    | refine qa H (qxy _ hk _) λ_ f H2=>?_
    | refine qa H (qxy _ hk2 _) λ_ f H2=>?_
    | refine qa H (qzk _ _) λ_ f H2=>?_
    | refine qa H (qwQ _ _ _) λ_ f H2=>?_)
   | ((with_reducible refine qs H ?hl ?h1 λ_ f H2=>?_);(case hl=>rfl);(case h1=>rfl))
   | ((with_reducible refine zA H ?hl ?h1 λ_ f H2=>?_);(case hl=>rfl);(case h1=>rfl))
   | ((with_reducible refine ZB H ?hl ?h1 λ_ f H2=>?_);(case hl=>rfl);(case h1=>rfl))
   | ((with_reducible refine XT H ?hl ?h1 λ_ f H2=>?_);(case hl=>rfl);(case h1=>rfl))
   | ((with_reducible refine XS H ?hl ?h1 λ_ f H2=>?_);(case hl=>rfl);(case h1=>rfl))
   | ((with_reducible refine XR H ?hl ?h1 λ_ f H2=>?_);(case hl=>rfl);(case h1=>rfl))
   | ((with_reducible refine cV H ?hl ?h1 λ_ f H2=>?_);(case hl=>exact Nat.le_of_ble_eq_true rfl);(case h1=>rfl);(simp only [go_sem] at H2))
   | ((with_reducible refine cK H ?hl ?h1 λ_ f H2=>?_);(case hl=>exact Nat.le_of_ble_eq_true rfl);(case h1=>rfl);(simp only [go_sem] at H2))
   | ((with_reducible refine eV H ?hl ?h1 λ_ f H2=>?_);(case hl=>exact Nat.le_of_ble_eq_true rfl);(case h1=>rfl);(simp only [go_sem] at H2))
   | ((with_reducible refine eK H ?hl ?h1 λ_ f H2=>?_);(case hl=>exact Nat.le_of_ble_eq_true rfl);(case h1=>rfl);(simp only [go_sem] at H2)));clear f;clear H;have H:=H2;clear H2;simp (disch:=omega) only [go_sem,undef,H.cs, *])
  | ((with_reducible refine qE (λhq=>?_) (λhq=>?_))<;>(try simp only [Bool.not_true,Bool.not_false] at hq)<;>simp (disch:=omega) only [go_sem,undef,H.cs, *])
  | ((with_reducible refine ql (λhq=>?_) (λhq=>?_))<;>simp (disch:=omega) only [go_sem,undef,H.cs, *]))
 all_goals (try simp only [decide_eq_true_eq,decide_eq_false_iff_not] at *)
 all_goals exact ⟨by first | rfl | (simp only [Value.bool.injEq,decide_eq_true_eq,eq_comm (a:=true),eq_comm (a:=false),decide_eq_false_iff_not,decide_eq_decide];grind [Qj]),H.fr⟩
end Go.Fw
namespace Go.Fw
open Go.Proofs
variable {m m0 M:Mem} {S:List Nat} {L:List As}
theorem Lt.bz(c:Lt)(a b d:Int):lay c.cs [(0,1),(1,1),(2,1)] [.int .i64 a,.int .i64 b,.int .i64 d]=some ({ c with kind:=a,src:=b,dst:=d }:Lt).cs:=rfl
theorem Lt.Dh(c:Lt)(k:Int)(p q:Int×Int)(a:Att):lay c.cs [(0,1),(3,2),(5,2),(14,8)] [.int .i64 k,.agg (pc p).toArray,.agg (pc q).toArray,.agg a.cs.toArray]=some ({ c with kind:=k,inst:=p,bal:=q,att:=a }:Lt).cs:=rfl
theorem Lt.Ng(c:Lt)(k:Int)(p q:Int×Int)(a:Cel):lay c.cs [(0,1),(3,2),(5,2),(22,21)] [.int .i64 k,.agg (pc p).toArray,.agg (pc q).toArray,.agg a.cs.toArray]=some ({ c with kind:=k,inst:=p,bal:=q,cel:=a }:Lt).cs:=rfl
theorem Lt.Nf(c:Lt)(k:Int)(p q:Int×Int):lay c.cs [(0,1),(3,2),(5,2)] [.int .i64 k,.agg (pc p).toArray,.agg (pc q).toArray]=some ({ c with kind:=k,inst:=p,bal:=q }:Lt).cs:=rfl
theorem Lt.qxk(c:Lt)(k:Int)(p:Int×Int)(x:Cmd)(a:Att):lay c.cs [(0,1),(3,2),(7,7),(14,8)] [.int .i64 k,.agg (pc p).toArray,.agg x.cs.toArray,.agg a.cs.toArray]=some ({ c with kind:=k,inst:=p,cmd:=x,att:=a }:Lt).cs:=rfl
theorem Lt.qxx(c:Lt)(p q:Int×Int):lay c.cs [(3,2),(5,2)] [.agg (pc p).toArray,.agg (pc q).toArray]=some ({ c with inst:=p,bal:=q }:Lt).cs:=rfl
attribute [go_sem] Lt.bz Lt.Dh Lt.Ng Lt.Nf Lt.qxk Lt.qxx
theorem Cel.bz(c:Cel)(s:Int)(p q:Int×Int)(x:Cmd)(a:Att)(b:Bool):lay c.cs [(0,1),(1,2),(3,2),(5,7),(12,8),(20,1)] [.int .i64 s,.agg (pc p).toArray,.agg (pc q).toArray,.agg x.cs.toArray,.agg a.cs.toArray,.bool b]=some (Cel.mk s p q x a b).cs:=rfl
theorem Cel.Dh(c:Cel)(s:Int)(p q:Int×Int)(x:Cmd)(a:Att):lay c.cs [(0,1),(1,2),(3,2),(5,7),(12,8)] [.int .i64 s,.agg (pc p).toArray,.agg (pc q).toArray,.agg x.cs.toArray,.agg a.cs.toArray]=some (Cel.mk s p q x a c.same).cs:=rfl
theorem Cel.Ng(c:Cel)(s:Int)(x:Cmd)(a:Att)(b:Bool):lay c.cs [(0,1),(5,7),(12,8),(20,1)] [.int .i64 s,.agg x.cs.toArray,.agg a.cs.toArray,.bool b]=some (Cel.mk s c.pr c.vo x a b).cs:=rfl
theorem Sd.bz(c:Sd)(r:Int)(x:Cel):lay c.cs [(0,1),(1,21)] [.int .i64 r,.agg x.cs.toArray]=some (Sd.mk r x).cs:=rfl
theorem qC.bz(c:qC)(x:Cmd)(s:Int):lay c.cs [(0,7),(7,1)] [.agg x.cs.toArray,.int .i64 s]=some (qC.mk x s).cs:=rfl
theorem Prt.bz(c:Prt)(x y z w:Bool):lay c.cs [(0,1),(1,1),(2,1),(3,1)] [.bool x,.bool y,.bool z,.bool w]=some ({ c with inst:=x,bal:=y,cmd:=z,att:=w }:Prt).cs:=rfl
theorem Prt.Dh(c:Prt)(x y z:Bool):lay c.cs [(0,1),(1,1),(3,1)] [.bool x,.bool y,.bool z]=some ({ c with inst:=x,bal:=y,att:=z }:Prt).cs:=rfl
theorem Prt.Ng(c:Prt)(x y z:Bool):lay c.cs [(0,1),(1,1),(4,1)] [.bool x,.bool y,.bool z]=some ({ c with inst:=x,bal:=y,cel:=z }:Prt).cs:=rfl
theorem Prt.Nf(c:Prt)(x y:Bool):lay c.cs [(0,1),(1,1)] [.bool x,.bool y]=some ({ c with inst:=x,bal:=y }:Prt).cs:=rfl
theorem Prt.qxk(c:Prt)(x y z:Bool):lay c.cs [(0,1),(2,1),(3,1)] [.bool x,.bool y,.bool z]=some ({ c with inst:=x,cmd:=y,att:=z }:Prt).cs:=rfl
theorem Prt.qxx(c:Prt)(x:Bool):lay c.cs [(5,1)] [.bool x]=some ({ c with deps:=x }:Prt).cs:=rfl
theorem Prt.lay_g(c:Prt)(x:Bool):lay c.cs [(6,1)] [.bool x]=some ({ c with data:=x }:Prt).cs:=rfl
attribute [go_sem] Cel.bz Cel.Dh Cel.Ng Sd.bz qC.bz Prt.bz Prt.Dh Prt.Ng Prt.Nf Prt.qxk Prt.qxx Prt.lay_g
def Prt.of(k:Int):Prt:=if k=1∨k=3 then ⟨true,true,true,true,false,false,false⟩ else if k=2 then ⟨true,true,false,true,false,false,false⟩ else if k=4∨k=6∨k=8 then ⟨true,true,false,false,false,false,false⟩
 else if k=5 then ⟨true,false,true,true,false,false,false⟩ else if k=7 then ⟨true,true,false,false,true,false,false⟩ else if k=9∨k=11 then ⟨false,false,false,false,false,true,false⟩ else if k=10 then ⟨false,false,false,false,false,false,true⟩ else Prt.zero
def Lt.bare(m:Lt)(p:Prt):Lt:=⟨m.kind,m.src,m.dst,if p.inst then m.inst else (0,0),if p.bal then m.bal else (0,0),if p.cmd then m.cmd else Cmd.zero,if p.att then m.att else Att.zero,if p.cel then m.cel else Cel.zero,if p.deps then m.deps else Dp.zero,if p.data then m.data else noB⟩
theorem qwv(k:Int)(m:Mem):MC Tryz.prog CD [.int .i64 k] m λv m'=>v=.tuple #[(Prt.of k).v,.bool (decide (1≤k∧k≤11))]∧Fr m m' []:=by
 refine Am (by simp [Tryz.f33]) ?_
 have H:=Hq.refl m []
 simp (disch:=omega) only [go_sem,undef]
 repeat' (first
  | ((first
   | (with_reducible first
    | refine qg H λ_ _ f H2=>?_
    | refine xK H λ_ f H2=>?_
    | refine cQ H λ_ f H2=>?_
    | refine Wy H λ_ f H2=>?_
    | refine eX H λ_ f H2=>?_
    | refine eJ H λ_ f H2=>?_
    | refine eZ H λ_ f H2=>?_)
   | ((with_reducible refine qs H ?hl ?h1 λ_ f H2=>?_);(case hl=>rfl);(case h1=>rfl))
   | ((with_reducible refine zA H ?hl ?h1 λ_ f H2=>?_);(case hl=>rfl);(case h1=>rfl))
   | ((with_reducible refine ZB H ?hl ?h1 λ_ f H2=>?_);(case hl=>rfl);(case h1=>rfl))
   | ((with_reducible refine XT H ?hl ?h1 λ_ f H2=>?_);(case hl=>rfl);(case h1=>rfl))
   | ((with_reducible refine XS H ?hl ?h1 λ_ f H2=>?_);(case hl=>rfl);(case h1=>rfl))
   | ((with_reducible refine XR H ?hl ?h1 λ_ f H2=>?_);(case hl=>rfl);(case h1=>rfl))
   | ((with_reducible refine cV H ?hl ?h1 λ_ f H2=>?_);(case hl=>exact Nat.le_of_ble_eq_true rfl);(case h1=>rfl);(simp only [go_sem] at H2))
   | ((with_reducible refine cK H ?hl ?h1 λ_ f H2=>?_);(case hl=>exact Nat.le_of_ble_eq_true rfl);(case h1=>rfl);(simp only [go_sem] at H2))
   | ((with_reducible refine eV H ?hl ?h1 λ_ f H2=>?_);(case hl=>exact Nat.le_of_ble_eq_true rfl);(case h1=>rfl);(simp only [go_sem] at H2))
   | ((with_reducible refine eK H ?hl ?h1 λ_ f H2=>?_);(case hl=>exact Nat.le_of_ble_eq_true rfl);(case h1=>rfl);(simp only [go_sem] at H2)));clear f;clear H;have H:=H2;clear H2;simp (disch:=omega) only [go_sem,undef,H.cs, *])
  | ((with_reducible refine qE (λhq=>?_) (λhq=>?_))<;>(try simp only [Bool.not_true,Bool.not_false] at hq)<;>simp (disch:=omega) only [go_sem,undef,H.cs, *])
  | ((with_reducible refine ql (λhq=>?_) (λhq=>?_))<;>simp (disch:=omega) only [go_sem,undef,H.cs, *]))
 all_goals (try simp only [decide_eq_true_eq,decide_eq_false_iff_not] at *)
 all_goals (have F:=H.fr;clear H;refine ⟨?_,F⟩;clear F)
 all_goals (rw [show decide (1≤k∧k≤11)=_ from by first | exact decide_eq_true (by omega) | exact decide_eq_false (by omega)];simp [Prt.of, *])
theorem qvM(k:Int)(m:Mem):MC Tryz.prog CC [.int .i64 k] m λv m'=>v=.bool (decide (0≤k∧k < 7))∧Fr m m' []:=by
 refine AY (by simp [Tryz.f33]) ?_
 have H:=Hq.refl m []
 simp (disch:=omega) only [go_sem,undef]
 repeat' (first
  | ((first
   | (with_reducible first
    | refine qg H λ_ _ f H2=>?_
    | refine xK H λ_ f H2=>?_
    | refine cQ H λ_ f H2=>?_
    | refine Wy H λ_ f H2=>?_
    | refine eX H λ_ f H2=>?_
    | refine eJ H λ_ f H2=>?_
    | refine eZ H λ_ f H2=>?_)
   | ((with_reducible refine qs H ?hl ?h1 λ_ f H2=>?_);(case hl=>rfl);(case h1=>rfl))
   | ((with_reducible refine zA H ?hl ?h1 λ_ f H2=>?_);(case hl=>rfl);(case h1=>rfl))
   | ((with_reducible refine ZB H ?hl ?h1 λ_ f H2=>?_);(case hl=>rfl);(case h1=>rfl))
   | ((with_reducible refine XT H ?hl ?h1 λ_ f H2=>?_);(case hl=>rfl);(case h1=>rfl))
   | ((with_reducible refine XS H ?hl ?h1 λ_ f H2=>?_);(case hl=>rfl);(case h1=>rfl))
   | ((with_reducible refine XR H ?hl ?h1 λ_ f H2=>?_);(case hl=>rfl);(case h1=>rfl))
   | ((with_reducible refine cV H ?hl ?h1 λ_ f H2=>?_);(case hl=>exact Nat.le_of_ble_eq_true rfl);(case h1=>rfl);(simp only [go_sem] at H2))
   | ((with_reducible refine cK H ?hl ?h1 λ_ f H2=>?_);(case hl=>exact Nat.le_of_ble_eq_true rfl);(case h1=>rfl);(simp only [go_sem] at H2))
   | ((with_reducible refine eV H ?hl ?h1 λ_ f H2=>?_);(case hl=>exact Nat.le_of_ble_eq_true rfl);(case h1=>rfl);(simp only [go_sem] at H2))
   | ((with_reducible refine eK H ?hl ?h1 λ_ f H2=>?_);(case hl=>exact Nat.le_of_ble_eq_true rfl);(case h1=>rfl);(simp only [go_sem] at H2)));clear f;clear H;have H:=H2;clear H2;simp (disch:=omega) only [go_sem,undef,H.cs, *])
  | ((with_reducible refine qE (λhq=>?_) (λhq=>?_))<;>(try simp only [Bool.not_true,Bool.not_false] at hq)<;>simp (disch:=omega) only [go_sem,undef,H.cs, *])
  | ((with_reducible refine ql (λhq=>?_) (λhq=>?_))<;>simp (disch:=omega) only [go_sem,undef,H.cs, *]))
 all_goals (try simp only [decide_eq_true_eq,decide_eq_false_iff_not] at *)
 all_goals exact ⟨by first | rfl | (simp only [Value.bool.injEq,decide_eq_true_eq,eq_comm (a:=true),eq_comm (a:=false),decide_eq_false_iff_not,decide_eq_decide];grind []),H.fr⟩
theorem Prt.cases(k:Int){P:Prt→Prop}(h1:P ⟨true,true,true,true,false,false,false⟩)(h2:P ⟨true,true,false,true,false,false,false⟩)(h3:P ⟨true,true,false,false,false,false,false⟩)(h4:P ⟨true,false,true,true,false,false,false⟩)(h5:P ⟨true,true,false,false,true,false,false⟩)(h6:P ⟨false,false,false,false,false,true,false⟩)(h7:P ⟨false,false,false,false,false,false,true⟩)(h8:P ⟨false,false,false,false,false,false,false⟩):P (Prt.of k):=by
 unfold Prt.of
 repeat' split
 all_goals assumption
theorem qJs(m:Lt)(k:Int)(M:Mem):MC Tryz.prog lx [m.v,(Prt.of k).v] M λv m'=>v=(m.bare (Prt.of k)).v∧Fr M m' []:=by
 refine Prt.cases k (P:=λp=>MC Tryz.prog lx [m.v,p.v] M λv m'=>v=(m.bare p).v∧Fr M m' []) ?_ ?_ ?_ ?_ ?_ ?_ ?_ ?_
 all_goals
  refine Dg (by simp [Tryz.f33]) ?_
  have H:=Hq.refl M []
  simp (disch:=omega) only [go_sem,undef]
  repeat' (first
   | ((first
    | (with_reducible first
     | refine qg H λ_ _ f H2=>?_
     | refine xK H λ_ f H2=>?_
     | refine cQ H λ_ f H2=>?_
     | refine Wy H λ_ f H2=>?_
     | refine eX H λ_ f H2=>?_
     | refine eJ H λ_ f H2=>?_
     | refine eZ H λ_ f H2=>?_)
    | ((with_reducible refine qs H ?hl ?h1 λ_ f H2=>?_);(case hl=>rfl);(case h1=>rfl))
    | ((with_reducible refine zA H ?hl ?h1 λ_ f H2=>?_);(case hl=>rfl);(case h1=>rfl))
    | ((with_reducible refine ZB H ?hl ?h1 λ_ f H2=>?_);(case hl=>rfl);(case h1=>rfl))
    | ((with_reducible refine XT H ?hl ?h1 λ_ f H2=>?_);(case hl=>rfl);(case h1=>rfl))
    | ((with_reducible refine XS H ?hl ?h1 λ_ f H2=>?_);(case hl=>rfl);(case h1=>rfl))
    | ((with_reducible refine XR H ?hl ?h1 λ_ f H2=>?_);(case hl=>rfl);(case h1=>rfl))
    | ((with_reducible refine cV H ?hl ?h1 λ_ f H2=>?_);(case hl=>exact Nat.le_of_ble_eq_true rfl);(case h1=>rfl);(simp only [go_sem] at H2))
    | ((with_reducible refine cK H ?hl ?h1 λ_ f H2=>?_);(case hl=>exact Nat.le_of_ble_eq_true rfl);(case h1=>rfl);(simp only [go_sem] at H2))
    | ((with_reducible refine eV H ?hl ?h1 λ_ f H2=>?_);(case hl=>exact Nat.le_of_ble_eq_true rfl);(case h1=>rfl);(simp only [go_sem] at H2))
    | ((with_reducible refine eK H ?hl ?h1 λ_ f H2=>?_);(case hl=>exact Nat.le_of_ble_eq_true rfl);(case h1=>rfl);(simp only [go_sem] at H2)));clear f;clear H;have H:=H2;clear H2;simp (disch:=omega) only [go_sem,undef,H.cs, *])
   | ((with_reducible refine qE (λhq=>?_) (λhq=>?_))<;>(try simp only [Bool.not_true,Bool.not_false] at hq)<;>simp (disch:=omega) only [go_sem,undef,H.cs, *])
   | ((with_reducible refine ql (λhq=>?_) (λhq=>?_))<;>simp (disch:=omega) only [go_sem,undef,H.cs, *]))
  exact ⟨rfl,H.fr⟩
def Lt.right(m:Lt):Prop:=(1≤m.kind∧m.kind≤11)∧(0≤m.src∧m.src < 7)∧(0≤m.dst∧m.dst < 7)∧m.src≠m.dst∧m=m.bare (Prt.of m.kind)∧((Prt.of m.kind).inst=true→zj m.inst)∧xY m.bal∧m.cmd.right∧xC m.att∧m.cel.right∧xC ⟨0,m.deps⟩∧m.data.size≤16384
instance (m:Lt):Decidable m.right:=by unfold Lt.right;exact inferInstance
end Go.Fw
namespace Go.Fw
open Go.Proofs
variable {m m0 M:Mem} {S:List Nat} {L:List As}
theorem Att.Nf(c:Att)(d:Dp):lay c.cs [(1,7)] [.agg (dv d).toArray]=some ({ c with deps:=d }:Att).cs:=rfl
theorem fw(m:Lt)(M:Mem):MC Tryz.prog CE [m.v] M λv m'=>v=.bool (decide m.right)∧Fr M m' []:=by
 refine AL (by simp [Tryz.f33]) ?_
 have H:=Hq.refl M []
 simp (disch:=omega) only [go_sem,undef]
 repeat' (first
  | ((first
   | (with_reducible first
    | refine qg H λ_ _ f H2=>?_
    | refine xK H λ_ f H2=>?_
    | refine cQ H λ_ f H2=>?_
    | refine Wy H λ_ f H2=>?_
    | refine eX H λ_ f H2=>?_
    | refine eJ H λ_ f H2=>?_
    | refine eZ H λ_ f H2=>?_
    | refine qa H (qwv _ _) λ_ f H2=>?_
    | refine qa H (qvM _ _) λ_ f H2=>?_
    | refine qa H (qJs _ _ _) λ_ f H2=>?_
    | refine qa H (zx _ _) λ_ f H2=>?_
    | refine qa H (xF _ _) λ_ f H2=>?_
    | refine qa H (xv _ _) λ_ f H2=>?_
    | refine qa H (zl _ _) λ_ f H2=>?_
    | refine qa H (QT _ _) λ_ f H2=>?_)
   | ((with_reducible refine qs H ?hl ?h1 λ_ f H2=>?_);(case hl=>rfl);(case h1=>rfl))
   | ((with_reducible refine zA H ?hl ?h1 λ_ f H2=>?_);(case hl=>rfl);(case h1=>rfl))
   | ((with_reducible refine ZB H ?hl ?h1 λ_ f H2=>?_);(case hl=>rfl);(case h1=>rfl))
   | ((with_reducible refine XT H ?hl ?h1 λ_ f H2=>?_);(case hl=>rfl);(case h1=>rfl))
   | ((with_reducible refine XS H ?hl ?h1 λ_ f H2=>?_);(case hl=>rfl);(case h1=>rfl))
   | ((with_reducible refine XR H ?hl ?h1 λ_ f H2=>?_);(case hl=>rfl);(case h1=>rfl))
   | ((with_reducible refine cV H ?hl ?h1 λ_ f H2=>?_);(case hl=>exact Nat.le_of_ble_eq_true rfl);(case h1=>rfl);(simp only [go_sem] at H2))
   | ((with_reducible refine cK H ?hl ?h1 λ_ f H2=>?_);(case hl=>exact Nat.le_of_ble_eq_true rfl);(case h1=>rfl);(simp only [go_sem] at H2))
   | ((with_reducible refine eV H ?hl ?h1 λ_ f H2=>?_);(case hl=>exact Nat.le_of_ble_eq_true rfl);(case h1=>rfl);(simp only [go_sem] at H2))
   | ((with_reducible refine eK H ?hl ?h1 λ_ f H2=>?_);(case hl=>exact Nat.le_of_ble_eq_true rfl);(case h1=>rfl);(simp only [go_sem] at H2)));clear f;clear H;have H:=H2;clear H2;simp (disch:=omega) only [go_sem,undef,H.cs, *])
  | ((with_reducible refine qE (λhq=>?_) (λhq=>?_))<;>(try simp only [Bool.not_true,Bool.not_false] at hq)<;>simp (disch:=omega) only [go_sem,undef,H.cs, *])
  | ((with_reducible refine ql (λhq=>?_) (λhq=>?_))<;>simp (disch:=omega) only [go_sem,undef,H.cs, *]))
 all_goals (try simp only [decide_eq_true_eq,decide_eq_false_iff_not] at *)
 all_goals (have F:=H.fr;clear H;refine ⟨?_,F⟩;clear F)
 all_goals first
  | exact congrArg Value.bool (decide_eq_false λh:m.right=>absurd (h.1) (by assumption)).symm
  | exact congrArg Value.bool (decide_eq_false λh:m.right=>absurd (h.2.1) (by assumption)).symm
  | exact congrArg Value.bool (decide_eq_false λh:m.right=>absurd (h.2.2.1) (by assumption)).symm
  | exact congrArg Value.bool (decide_eq_false λh:m.right=>absurd (by assumption) (h.2.2.2.1)).symm
  | exact congrArg Value.bool (decide_eq_false λh:m.right=>absurd (h.2.2.2.2.1) (by assumption)).symm
  | exact congrArg Value.bool (decide_eq_false λh:m.right=>absurd (h.2.2.2.2.2.1 (by assumption)) (by assumption)).symm
  | exact congrArg Value.bool (decide_eq_false λh:m.right=>absurd (h.2.2.2.2.2.2.1) (by assumption)).symm
  | exact congrArg Value.bool (decide_eq_false λh:m.right=>absurd (h.2.2.2.2.2.2.2.1) (by assumption)).symm
  | exact congrArg Value.bool (decide_eq_false λh:m.right=>absurd (h.2.2.2.2.2.2.2.2.1) (by assumption)).symm
  | exact congrArg Value.bool (decide_eq_false λh:m.right=>absurd (h.2.2.2.2.2.2.2.2.2.1) (by assumption)).symm
  | exact congrArg Value.bool (decide_eq_false λh:m.right=>absurd (h.2.2.2.2.2.2.2.2.2.2.1) (by assumption)).symm
  | exact congrArg Value.bool (decide_eq_false λh:m.right=>absurd (h.2.2.2.2.2.2.2.2.2.2.2) (by assumption)).symm
  | exact congrArg Value.bool (decide_eq_decide.2 ⟨λh=>⟨by assumption,by assumption,by assumption,by assumption,by assumption,λh2=>(by first | assumption | exact Bool.noConfusion (h2.symm.trans (by assumption:(Prt.of m.kind).inst=false))),by assumption,by assumption,by assumption,by assumption,by assumption,by omega⟩,λh:m.right=>by have:=h.2.2.2.2.2.2.2.2.2.2.2;omega⟩)
end Go.Fw
namespace Go.Fw
open Go.Proofs
variable {m m0 M:Mem} {S:List Nat} {L:List As}
def zG(a b:Att):Att:=⟨max a.seq b.seq,λi=>max (a.deps i) (b.deps i)⟩
def jc:List Att→Att
 | []=>Att.zero
 | x::r=>r.foldl zG x
theorem qZI(a b:Att)(k:Nat)(h:k < 7):(zG a b).deps.g k=max (a.deps.g k) (b.deps.g k):=by simp [Dp.g,h,zG]
theorem RN{α β:Type}(f:β→α→β)(x:β)(l:List α)(j:Nat)(y:α)(h:l[j]?=some y):(l.take (j+1)).foldl f x=f ((l.take j).foldl f x) y:=by
 rw [List.take_add_one,h];simp
theorem cD{a:Option Addr}{c n:Nat}{l:List Att}(hl:l.length=n)(hv:RdS 8 Att.cs m (.slice a n c) l)(h0:0 < n)(hn:n≤1000):MC Tryz.prog NY [.slice a n c] m λv m'=>v=(jc l).v∧Fr m m' []:=by
 subst hl
 obtain ⟨x,r,rfl⟩:∃ x r,l=x::r:=by cases l with
  | nil=>simp at h0
  | cons x r=>exact ⟨x,r,rfl⟩
 obtain ⟨a1,c1,hc1,hr1,_⟩:=hv.cut (by decide) 1 (x::r).length (by simp) (Nat.le_refl _)
 rw [List.take_length] at hr1
 obtain ⟨b1,o1,hx1,hix,hE⟩:∃ b o,(x::r)[0]?=some x∧IxAt 8 (.slice a (x::r).length c) 0 b o∧El 8 Att.cs m b o x:=by
  refine RdS.elK hv h0 (by decide) λb o y hy hi he=>?_
  cases hy
  exact ⟨b,o,rfl,hi,he⟩
 have hlr:(x::r).length - 1=r.length:=rfl
 have hr2:RdS 8 Att.cs m (.slice a1 r.length c1) r:=hr1
 clear hr1
 rw [hlr] at hc1
 have hn1:(x::r).length=r.length+1:=rfl
 have hjl:jc (x::r)=(r.take r.length).foldl zG x:=by rw [List.take_length];rfl
 rw [hjl]
 clear hjl hv
 generalize (x::r).length=n at *
 refine Lg (by simp [Tryz.f33]) ?_
 have H:=Hq.refl m []
 have nc1:((1:Nat):Int)=1:=rfl
 rw [nc1] at hc1
 have hix0:∀ M,rd (.ixs 8) [.slice a n c,.int .i64 0] M=some (.pointer (some ⟨b1,o1,none⟩)):=λM=>hix _ M
 simp (disch:=omega) only [go_sem,undef]
 refine qg H λb M f H=>?_
 simp (disch:=omega) only [go_sem,undef,qX (show ¬ ((n:Nat):Int)=0 by omega),hix0,(hE.frame f).mD 8 (by decide) (by decide)]
 refine qg H λb3 M f H=>?_
 simp (disch:=omega) only [go_sem,undef,H.cs]
 refine qs H rfl rfl λM f H=>?_
 simp (disch:=omega) only [go_sem,undef,hc1]
 refine qe (λk E m'=>∃ (j:Nat) (y:Att),j≤r.length∧k=r.length - j∧y=(r.take j).foldl zG x∧E=[(2,.pointer (some ⟨b,0,none⟩)),(3,.pointer (some ⟨b3,0,none⟩)),(16,.slice a1 r.length c1),(17,.int .i64 (r.length:Nat)),(18,.int .i64 (j:Nat))] ∧
  Hq m m' [] [qw b3 (.cells y.cs.toArray qb),qw b (.cells Att.zero.cs.toArray qb)]) r.length rfl ⟨0,x,by omega,rfl,rfl,rfl,H⟩ ?_
 clear H f hE hix0
 rintro k E M1 ⟨j,y,hj,rfl,hy,rfl,H⟩
 by_cases hlt:j < r.length
 ·refine RdS.elK (hr2.frame H.fr) hlt (by decide) λbx o z hz hixz hEz=>?_
  have hs:=RN zG x r j z hz
  rw [← hy] at hs
  simp (disch:=omega) only [go_sem,undef,qZ (show ((j:Nat):Int) < (r.length:Nat) by omega),hixz,hEz.mD 8 (by decide) (by decide)]
  refine qg H λb5 M f H=>?_
  simp (disch:=omega) only [go_sem,undef,H.cs]
  refine qs H rfl rfl λM f H=>?_
  simp (disch:=omega) only [go_sem,undef,H.cs]
  refine cQ H λM f H=>?_
  simp (disch:=omega) only [go_sem,undef,H.cs]
  refine qe (λk E m'=>∃ (i:Nat) (d:Dp),i≤7∧k=7 - i∧(∀ t,t < i→d.g t=max (y.deps.g t) (z.deps.g t))∧(∀ t,i≤t→d.g t=y.deps.g t)∧E=[(2,.pointer (some ⟨b,0,none⟩)),(3,.pointer (some ⟨b3,0,none⟩)),(16,.slice a1 r.length c1),(17,.int .i64 (r.length:Nat)),(18,.int .i64 (j:Nat)),(29,.agg (dv z.deps).toArray),(30,.int .i64 (i:Nat))] ∧
   Hq m m' [] [qw b5 (.cells z.cs.toArray qb),qw b3 (.cells (Att.mk (max y.seq z.seq) d).cs.toArray qb),qw b (.cells Att.zero.cs.toArray qb)]) 7 rfl ⟨0,y.deps,by omega,rfl,by simp,by simp,rfl,H⟩ ?_
  clear H f hEz hixz
  rintro k E M2 ⟨i,d,hi,rfl,hd1,hd2,rfl,H⟩
  by_cases hlt7:i < 7
  ·simp (disch:=omega) only [go_sem,undef,qZ (show ((i:Nat):Int) < 7 by omega),H.cs]
   refine cQ H λM f H=>?_
   simp (disch:=omega) only [go_sem,undef]
   refine qK (7 - (i+1)) (by omega) ⟨i+1,_,by omega,rfl,λt ht=>?_,λt ht=>?_,rfl,H⟩
   ·rw [Dp.dg]
    by_cases e:t=i
    ·subst e;rw [if_pos ⟨rfl,hlt7⟩,hd2 t (Nat.le_refl _)]
    ·rw [if_neg (λh=>e h.1)];exact hd1 t (by omega)
   ·rw [Dp.dg,if_neg (by omega)];exact hd2 t (by omega)
  ·have e:d=(zG y z).deps:=Dp.fT λt ht=>by rw [qZI y z t ht];exact hd1 t (by omega)
   subst e
   simp (disch:=omega) only [go_sem,undef,qX (show ¬ ((i:Nat):Int) < 7 by omega)]
   exact qK (r.length - (j+1)) (by omega) ⟨j+1,zG y z,by omega,rfl,hs.symm,rfl,H.tail⟩
 ·have e:j=r.length:=by omega
  subst e
  simp (disch:=omega) only [go_sem,undef,qX (show ¬ ((r.length:Nat):Int) < (r.length:Nat) by omega),H.cs]
  refine zA H rfl rfl λM f H=>?_
  simp (disch:=omega) only [go_sem,undef,H.cs]
  exact ⟨by rw [hy],H.fr⟩
end Go.Fw
