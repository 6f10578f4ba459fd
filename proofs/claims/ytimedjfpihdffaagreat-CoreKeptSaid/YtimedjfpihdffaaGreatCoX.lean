import Derived.Test.YtimedjfpihdffaaGreatFxA
import Derived.Test.YtimedjfpihdffaaGreatBa
set_option linter.unusedVariables false
set_option linter.unusedSimpArgs false
set_option maxHeartbeats 16000000
namespace Go.Fw
open Go
theorem zJ {k1 k2:List LK} {x1 y1 x2 y2:List Value} {p q:Prop} [Decidable p] [Decidable q] (h1:qi k1 x1 y1=some (decide p)) (h2:qi k2 x2 y2=some (decide q)):qi (k1++k2) (x1++x2) (y1++y2)=some (decide (p∧q)):=by
 rw [Xh k1 h1,h2,Option.map_some];congr 1;by_cases hp:p<;>by_cases hq:q<;>simp [hp,hq]
theorem HB (a b:Int):qi [.i .i64] [.int .i64 a] [.int .i64 b]=some (decide (a=b)):=by rw [jZ,LZ];simp [vR]
theorem UF (a b:Bool):qi [.b] [.bool a] [.bool b]=some (decide (a=b)):=by rw [jZ,qvu];simp [vR]
theorem qXI (a b:ByteArray):qi [.s] [.string a] [.string b]=some (decide (a=b)):=by rw [jZ,CA];simp [vR]
structure Lt where
 kind:Int
 src:Int
 dst:Int
 inst:Int×Int
 bal:Int×Int
 cmd:Cmd
 att:Att
 cel:Cel
 deps:Dp
 data:ByteArray
 deriving DecidableEq
def Lt.cs (a:Lt):List Value:=[.int .i64 a.kind]++([.int .i64 a.src]++([.int .i64 a.dst]++(pc a.inst++(pc a.bal++(a.cmd.cs++(a.att.cs++(a.cel.cs++(dv a.deps++([.string a.data])))))))))
abbrev Lt.v (a:Lt):Value:=.agg a.cs.toArray
theorem Lt.len (a:Lt):a.cs.length=51:=rfl
theorem Lt.all (a:Lt):a.cs.take 51=a.cs:=rfl
theorem Lt.Kj (a:Lt):(a.cs.drop 0).take 51=a.cs:=rfl
theorem Lt.vS (a:Lt):lay a.cs [] []=some a.cs:=rfl
theorem Lt.VR (a b:Lt):lay a.cs [(0,51)] [.agg b.cs.toArray]=some b.cs:=rfl
theorem Lt.g0 (a:Lt):a.cs[0]?=some (.int .i64 a.kind):=rfl
theorem Lt.s0 (a:Lt) (x:Int):a.cs.set 0 (.int .i64 x)=({ a with kind:=x }:Lt).cs:=rfl
theorem Lt.g1 (a:Lt):a.cs[1]?=some (.int .i64 a.src):=rfl
theorem Lt.s1 (a:Lt) (x:Int):a.cs.set 1 (.int .i64 x)=({ a with src:=x }:Lt).cs:=rfl
theorem Lt.g2 (a:Lt):a.cs[2]?=some (.int .i64 a.dst):=rfl
theorem Lt.s2 (a:Lt) (x:Int):a.cs.set 2 (.int .i64 x)=({ a with dst:=x }:Lt).cs:=rfl
theorem Lt.g3 (a:Lt):a.cs[3]?=some (.int .i64 a.inst.1):=rfl
theorem Lt.g4 (a:Lt):a.cs[4]?=some (.int .i64 a.inst.2):=rfl
theorem Lt.s3 (a:Lt) (x:Int):a.cs.set 3 (.int .i64 x)=({ a with inst:=(x,a.inst.2) }:Lt).cs:=rfl
theorem Lt.s4 (a:Lt) (x:Int):a.cs.set 4 (.int .i64 x)=({ a with inst:=(a.inst.1,x) }:Lt).cs:=rfl
theorem Lt.DZ (a:Lt):(a.cs.drop 3).take 2=pc a.inst:=rfl
theorem Lt.Ej (a:Lt) (x:Int×Int):a.cs.take 3++(pc x++a.cs.drop 5)=({ a with inst:=x }:Lt).cs:=rfl
theorem Lt.g5 (a:Lt):a.cs[5]?=some (.int .i64 a.bal.1):=rfl
theorem Lt.g6 (a:Lt):a.cs[6]?=some (.int .i64 a.bal.2):=rfl
theorem Lt.s5 (a:Lt) (x:Int):a.cs.set 5 (.int .i64 x)=({ a with bal:=(x,a.bal.2) }:Lt).cs:=rfl
theorem Lt.s6 (a:Lt) (x:Int):a.cs.set 6 (.int .i64 x)=({ a with bal:=(a.bal.1,x) }:Lt).cs:=rfl
theorem Lt.LS (a:Lt):(a.cs.drop 5).take 2=pc a.bal:=rfl
theorem Lt.Ma (a:Lt) (x:Int×Int):a.cs.take 5++(pc x++a.cs.drop 7)=({ a with bal:=x }:Lt).cs:=rfl
theorem Lt.g7 (a:Lt):a.cs[7]?=some (.int .i64 a.cmd.kind):=rfl
theorem Lt.g8 (a:Lt):a.cs[8]?=some (.int .i64 a.cmd.client):=rfl
theorem Lt.g9 (a:Lt):a.cs[9]?=some (.int .i64 a.cmd.seq):=rfl
theorem Lt.g10 (a:Lt):a.cs[10]?=some (.string a.cmd.key):=rfl
theorem Lt.g11 (a:Lt):a.cs[11]?=some (.string a.cmd.fin):=rfl
theorem Lt.g12 (a:Lt):a.cs[12]?=some (.string a.cmd.old):=rfl
theorem Lt.g13 (a:Lt):a.cs[13]?=some (.string a.cmd.val):=rfl
theorem Lt.Qi (a:Lt):(a.cs.drop 7).take 7=a.cmd.cs:=rfl
theorem Lt.Vb (a:Lt) (x:Cmd):a.cs.take 7++(x.cs++a.cs.drop 14)=({ a with cmd:=x }:Lt).cs:=rfl
theorem Lt.g14 (a:Lt):a.cs[14]?=some (.int .i64 a.att.seq):=rfl
theorem Lt.Yk (a:Lt):(a.cs.drop 14).take 8=a.att.cs:=rfl
theorem Lt.pJ (a:Lt) (x:Att):a.cs.take 14++(x.cs++a.cs.drop 22)=({ a with att:=x }:Lt).cs:=rfl
theorem Lt.g22 (a:Lt):a.cs[22]?=some (.int .i64 a.cel.st):=rfl
theorem Lt.LR (a:Lt):(a.cs.drop 22).take 21=a.cel.cs:=rfl
theorem Lt.MY (a:Lt) (x:Cel):a.cs.take 22++(x.cs++a.cs.drop 43)=({ a with cel:=x }:Lt).cs:=rfl
theorem Lt.DJ (a:Lt):(a.cs.drop 43).take 7=dv a.deps:=rfl
theorem Lt.qvZ (a:Lt) (x:Dp):a.cs.take 43++(dv x++a.cs.drop 50)=({ a with deps:=x }:Lt).cs:=rfl
theorem Lt.qQC (a:Lt) (k:Nat) (h:k < 7):a.cs[43+k]?=some (.int .i64 (a.deps.g k)):=by
 match k,h with
 | 0,_ | 1,_ | 2,_ | 3,_ | 4,_ | 5,_ | 6,_=>rfl
theorem Lt.qyg (a:Lt) (k:Nat) (x:Int) (h:k < 7):a.cs.set (43+k) (.int .i64 x)=({ a with deps:=Dp.up a.deps k x }:Lt).cs:=by
 match k,h with
 | 0,_ | 1,_ | 2,_ | 3,_ | 4,_ | 5,_ | 6,_=>rfl
theorem Lt.g50 (a:Lt):a.cs[50]?=some (.string a.data):=rfl
theorem Lt.s50 (a:Lt) (x:ByteArray):a.cs.set 50 (.string x)=({ a with data:=x }:Lt).cs:=rfl
abbrev Lt.zero:Lt:=⟨0,0,0,(0,0),(0,0),Cmd.zero,Att.zero,Cel.zero,Dp.zero,noB⟩
theorem Lt.one (a:Lt):a.cs.all Value.oneCell'=true:=rfl
theorem Lt_fa:Value.agg (List.toArray [.int .i64 0,.int .i64 0,.int .i64 0,.int .i64 0,.int .i64 0,.int .i64 0,.int .i64 0,.int .i64 0,.int .i64 0,.int .i64 0,.string noB,.string noB,.string noB,.string noB,.int .i64 0,.int .i64 0,.int .i64 0,.int .i64 0,.int .i64 0,.int .i64 0,.int .i64 0,.int .i64 0,.int .i64 0,.int .i64 0,.int .i64 0,.int .i64 0,.int .i64 0,.int .i64 0,.int .i64 0,.int .i64 0,.string noB,.string noB,.string noB,.string noB,.int .i64 0,.int .i64 0,.int .i64 0,.int .i64 0,.int .i64 0,.int .i64 0,.int .i64 0,.int .i64 0,.bool false,.int .i64 0,.int .i64 0,.int .i64 0,.int .i64 0,.int .i64 0,.int .i64 0,.int .i64 0,.string noB])=.agg (Lt.zero.cs).toArray:=rfl
theorem Lt_fl (ps:List (Nat×Nat)) (vs:List Value):lay [.int .i64 0,.int .i64 0,.int .i64 0,.int .i64 0,.int .i64 0,.int .i64 0,.int .i64 0,.int .i64 0,.int .i64 0,.int .i64 0,.string noB,.string noB,.string noB,.string noB,.int .i64 0,.int .i64 0,.int .i64 0,.int .i64 0,.int .i64 0,.int .i64 0,.int .i64 0,.int .i64 0,.int .i64 0,.int .i64 0,.int .i64 0,.int .i64 0,.int .i64 0,.int .i64 0,.int .i64 0,.int .i64 0,.string noB,.string noB,.string noB,.string noB,.int .i64 0,.int .i64 0,.int .i64 0,.int .i64 0,.int .i64 0,.int .i64 0,.int .i64 0,.int .i64 0,.bool false,.int .i64 0,.int .i64 0,.int .i64 0,.int .i64 0,.int .i64 0,.int .i64 0,.int .i64 0,.string noB] ps vs=lay (Lt.zero.cs) ps vs:=rfl
theorem Lt_fc (t:TypeId) (fr:Nat×Nat):Obj.cells (List.toArray [.int .i64 0,.int .i64 0,.int .i64 0,.int .i64 0,.int .i64 0,.int .i64 0,.int .i64 0,.int .i64 0,.int .i64 0,.int .i64 0,.string noB,.string noB,.string noB,.string noB,.int .i64 0,.int .i64 0,.int .i64 0,.int .i64 0,.int .i64 0,.int .i64 0,.int .i64 0,.int .i64 0,.int .i64 0,.int .i64 0,.int .i64 0,.int .i64 0,.int .i64 0,.int .i64 0,.int .i64 0,.int .i64 0,.string noB,.string noB,.string noB,.string noB,.int .i64 0,.int .i64 0,.int .i64 0,.int .i64 0,.int .i64 0,.int .i64 0,.int .i64 0,.int .i64 0,.bool false,.int .i64 0,.int .i64 0,.int .i64 0,.int .i64 0,.int .i64 0,.int .i64 0,.int .i64 0,.string noB]) t fr=.cells (Lt.zero.cs).toArray t fr:=rfl
attribute [go_sem ↓] Lt_fa Lt_fl Lt_fc
theorem Lt.eq (c d:Lt):qi [.i .i64,.i .i64,.i .i64,.i .i64,.i .i64,.i .i64,.i .i64,.i .i64,.i .i64,.i .i64,.s,.s,.s,.s,.i .i64,.i .i64,.i .i64,.i .i64,.i .i64,.i .i64,.i .i64,.i .i64,.i .i64,.i .i64,.i .i64,.i .i64,.i .i64,.i .i64,.i .i64,.i .i64,.s,.s,.s,.s,.i .i64,.i .i64,.i .i64,.i .i64,.i .i64,.i .i64,.i .i64,.i .i64,.b,.i .i64,.i .i64,.i .i64,.i .i64,.i .i64,.i .i64,.i .i64,.s] c.cs d.cs=some (decide (c=d)):=by
 refine (show qi _ _ _=_ from (zJ (HB c.kind d.kind) (zJ (HB c.src d.src) (zJ (HB c.dst d.dst) (zJ (pX c.inst d.inst) (zJ (pX c.bal d.bal) (zJ (Cmd.eq c.cmd d.cmd) (zJ (Att.eq c.att d.att) (zJ (Cel.eq c.cel d.cel) (zJ (qwJ c.deps d.deps) (qXI c.data d.data))))))))))).trans ?_
 congr 1;rw [Bool.eq_iff_iff];cases c;cases d;simp [and_assoc]
attribute [go_sem] Lt.len Lt.all Lt.Kj Lt.vS Lt.VR Lt.g0 Lt.s0 Lt.g1 Lt.s1 Lt.g2 Lt.s2 Lt.g3 Lt.g4 Lt.s3 Lt.s4 Lt.DZ Lt.Ej Lt.g5 Lt.g6 Lt.s5 Lt.s6 Lt.LS Lt.Ma Lt.g7 Lt.g8 Lt.g9 Lt.g10 Lt.g11 Lt.g12 Lt.g13 Lt.Qi Lt.Vb Lt.g14 Lt.Yk Lt.pJ Lt.g22 Lt.LR Lt.MY Lt.DJ Lt.qvZ Lt.qQC Lt.qyg Lt.g50 Lt.s50 Lt.one Lt.eq
structure qD where
 cmd:Cmd
 seq:Int
 deriving DecidableEq
def qD.cs (a:qD):List Value:=a.cmd.cs++([.int .i64 a.seq])
abbrev qD.v (a:qD):Value:=.agg a.cs.toArray
theorem qD.len (a:qD):a.cs.length=8:=rfl
theorem qD.all (a:qD):a.cs.take 8=a.cs:=rfl
theorem qD.Kj (a:qD):(a.cs.drop 0).take 8=a.cs:=rfl
theorem qD.vS (a:qD):lay a.cs [] []=some a.cs:=rfl
theorem qD.VR (a b:qD):lay a.cs [(0,8)] [.agg b.cs.toArray]=some b.cs:=rfl
theorem qD.g0 (a:qD):a.cs[0]?=some (.int .i64 a.cmd.kind):=rfl
theorem qD.g1 (a:qD):a.cs[1]?=some (.int .i64 a.cmd.client):=rfl
theorem qD.g2 (a:qD):a.cs[2]?=some (.int .i64 a.cmd.seq):=rfl
theorem qD.g3 (a:qD):a.cs[3]?=some (.string a.cmd.key):=rfl
theorem qD.g4 (a:qD):a.cs[4]?=some (.string a.cmd.fin):=rfl
theorem qD.g5 (a:qD):a.cs[5]?=some (.string a.cmd.old):=rfl
theorem qD.g6 (a:qD):a.cs[6]?=some (.string a.cmd.val):=rfl
theorem qD.Qi (a:qD):(a.cs.drop 0).take 7=a.cmd.cs:=rfl
theorem qD.qJm (a:qD):a.cs.take 7=a.cmd.cs:=rfl
theorem qD.Vb (a:qD) (x:Cmd):x.cs++a.cs.drop 7=({ a with cmd:=x }:qD).cs:=rfl
theorem qD.g7 (a:qD):a.cs[7]?=some (.int .i64 a.seq):=rfl
theorem qD.s7 (a:qD) (x:Int):a.cs.set 7 (.int .i64 x)=({ a with seq:=x }:qD).cs:=rfl
abbrev qD.zero:qD:=⟨Cmd.zero,0⟩
theorem qD.one (a:qD):a.cs.all Value.oneCell'=true:=rfl
theorem qwN:Value.agg (List.toArray [.int .i64 0,.int .i64 0,.int .i64 0,.string noB,.string noB,.string noB,.string noB,.int .i64 0])=.agg (qD.zero.cs).toArray:=rfl
theorem qwL (ps:List (Nat×Nat)) (vs:List Value):lay [.int .i64 0,.int .i64 0,.int .i64 0,.string noB,.string noB,.string noB,.string noB,.int .i64 0] ps vs=lay (qD.zero.cs) ps vs:=rfl
theorem qwM (t:TypeId) (fr:Nat×Nat):Obj.cells (List.toArray [.int .i64 0,.int .i64 0,.int .i64 0,.string noB,.string noB,.string noB,.string noB,.int .i64 0]) t fr=.cells (qD.zero.cs).toArray t fr:=rfl
attribute [go_sem ↓] qwN qwL qwM
theorem qD.eq (c d:qD):qi [.i .i64,.i .i64,.i .i64,.s,.s,.s,.s,.i .i64] c.cs d.cs=some (decide (c=d)):=by
 refine (show qi _ _ _=_ from (zJ (Cmd.eq c.cmd d.cmd) (HB c.seq d.seq))).trans ?_
 congr 1;rw [Bool.eq_iff_iff];cases c;cases d;simp [and_assoc]
attribute [go_sem] qD.len qD.all qD.Kj qD.vS qD.VR qD.g0 qD.g1 qD.g2 qD.g3 qD.g4 qD.g5 qD.g6 qD.Qi qD.qJm qD.Vb qD.g7 qD.s7 qD.one qD.eq
structure Sd where
 rep:Int
 cel:Cel
 deriving DecidableEq
def Sd.cs (a:Sd):List Value:=[.int .i64 a.rep]++(a.cel.cs)
abbrev Sd.v (a:Sd):Value:=.agg a.cs.toArray
theorem Sd.len (a:Sd):a.cs.length=22:=rfl
theorem Sd.all (a:Sd):a.cs.take 22=a.cs:=rfl
theorem Sd.Kj (a:Sd):(a.cs.drop 0).take 22=a.cs:=rfl
theorem Sd.vS (a:Sd):lay a.cs [] []=some a.cs:=rfl
theorem Sd.VR (a b:Sd):lay a.cs [(0,22)] [.agg b.cs.toArray]=some b.cs:=rfl
theorem Sd.g0 (a:Sd):a.cs[0]?=some (.int .i64 a.rep):=rfl
theorem Sd.s0 (a:Sd) (x:Int):a.cs.set 0 (.int .i64 x)=({ a with rep:=x }:Sd).cs:=rfl
theorem Sd.g1 (a:Sd):a.cs[1]?=some (.int .i64 a.cel.st):=rfl
theorem Sd.LR (a:Sd):(a.cs.drop 1).take 21=a.cel.cs:=rfl
theorem Sd.MY (a:Sd) (x:Cel):a.cs.take 1++(x.cs++a.cs.drop 22)=({ a with cel:=x }:Sd).cs:=rfl
abbrev Sd.zero:Sd:=⟨0,Cel.zero⟩
theorem Sd.one (a:Sd):a.cs.all Value.oneCell'=true:=rfl
theorem Sd_fa:Value.agg (List.toArray [.int .i64 0,.int .i64 0,.int .i64 0,.int .i64 0,.int .i64 0,.int .i64 0,.int .i64 0,.int .i64 0,.int .i64 0,.string noB,.string noB,.string noB,.string noB,.int .i64 0,.int .i64 0,.int .i64 0,.int .i64 0,.int .i64 0,.int .i64 0,.int .i64 0,.int .i64 0,.bool false])=.agg (Sd.zero.cs).toArray:=rfl
theorem Sd_fl (ps:List (Nat×Nat)) (vs:List Value):lay [.int .i64 0,.int .i64 0,.int .i64 0,.int .i64 0,.int .i64 0,.int .i64 0,.int .i64 0,.int .i64 0,.int .i64 0,.string noB,.string noB,.string noB,.string noB,.int .i64 0,.int .i64 0,.int .i64 0,.int .i64 0,.int .i64 0,.int .i64 0,.int .i64 0,.int .i64 0,.bool false] ps vs=lay (Sd.zero.cs) ps vs:=rfl
theorem Sd_fc (t:TypeId) (fr:Nat×Nat):Obj.cells (List.toArray [.int .i64 0,.int .i64 0,.int .i64 0,.int .i64 0,.int .i64 0,.int .i64 0,.int .i64 0,.int .i64 0,.int .i64 0,.string noB,.string noB,.string noB,.string noB,.int .i64 0,.int .i64 0,.int .i64 0,.int .i64 0,.int .i64 0,.int .i64 0,.int .i64 0,.int .i64 0,.bool false]) t fr=.cells (Sd.zero.cs).toArray t fr:=rfl
attribute [go_sem ↓] Sd_fa Sd_fl Sd_fc
theorem Sd.eq (c d:Sd):qi [.i .i64,.i .i64,.i .i64,.i .i64,.i .i64,.i .i64,.i .i64,.i .i64,.i .i64,.s,.s,.s,.s,.i .i64,.i .i64,.i .i64,.i .i64,.i .i64,.i .i64,.i .i64,.i .i64,.b] c.cs d.cs=some (decide (c=d)):=by
 refine (show qi _ _ _=_ from (zJ (HB c.rep d.rep) (Cel.eq c.cel d.cel))).trans ?_
 congr 1;rw [Bool.eq_iff_iff];cases c;cases d;simp [and_assoc]
attribute [go_sem] Sd.len Sd.all Sd.Kj Sd.vS Sd.VR Sd.g0 Sd.s0 Sd.g1 Sd.LR Sd.MY Sd.one Sd.eq
structure Spn where
 lo:ByteArray
 hi:ByteArray
 deriving DecidableEq
def Spn.cs (a:Spn):List Value:=[.string a.lo]++([.string a.hi])
abbrev Spn.v (a:Spn):Value:=.agg a.cs.toArray
theorem Spn.len (a:Spn):a.cs.length=2:=rfl
theorem Spn.all (a:Spn):a.cs.take 2=a.cs:=rfl
theorem Spn.Kj (a:Spn):(a.cs.drop 0).take 2=a.cs:=rfl
theorem Spn.vS (a:Spn):lay a.cs [] []=some a.cs:=rfl
theorem Spn.VR (a b:Spn):lay a.cs [(0,2)] [.agg b.cs.toArray]=some b.cs:=rfl
theorem Spn.g0 (a:Spn):a.cs[0]?=some (.string a.lo):=rfl
theorem Spn.s0 (a:Spn) (x:ByteArray):a.cs.set 0 (.string x)=({ a with lo:=x }:Spn).cs:=rfl
theorem Spn.g1 (a:Spn):a.cs[1]?=some (.string a.hi):=rfl
theorem Spn.s1 (a:Spn) (x:ByteArray):a.cs.set 1 (.string x)=({ a with hi:=x }:Spn).cs:=rfl
abbrev Spn.zero:Spn:=⟨noB,noB⟩
theorem Spn.one (a:Spn):a.cs.all Value.oneCell'=true:=rfl
theorem qKI:Value.agg (List.toArray [.string noB,.string noB])=.agg (Spn.zero.cs).toArray:=rfl
theorem qKG (ps:List (Nat×Nat)) (vs:List Value):lay [.string noB,.string noB] ps vs=lay (Spn.zero.cs) ps vs:=rfl
theorem qKH (t:TypeId) (fr:Nat×Nat):Obj.cells (List.toArray [.string noB,.string noB]) t fr=.cells (Spn.zero.cs).toArray t fr:=rfl
attribute [go_sem ↓] qKI qKG qKH
theorem Spn.eq (c d:Spn):qi [.s,.s] c.cs d.cs=some (decide (c=d)):=by
 refine (show qi _ _ _=_ from (zJ (qXI c.lo d.lo) (qXI c.hi d.hi))).trans ?_
 congr 1;rw [Bool.eq_iff_iff];cases c;cases d;simp [and_assoc]
attribute [go_sem] Spn.len Spn.all Spn.Kj Spn.vS Spn.VR Spn.g0 Spn.s0 Spn.g1 Spn.s1 Spn.one Spn.eq
structure Wsh where
 id:Int×Int
 ticks:Int
 told:Int×Int
 deriving DecidableEq
def Wsh.cs (a:Wsh):List Value:=pc a.id++([.int .i64 a.ticks]++(pc a.told))
abbrev Wsh.v (a:Wsh):Value:=.agg a.cs.toArray
theorem Wsh.len (a:Wsh):a.cs.length=5:=rfl
theorem Wsh.all (a:Wsh):a.cs.take 5=a.cs:=rfl
theorem Wsh.Kj (a:Wsh):(a.cs.drop 0).take 5=a.cs:=rfl
theorem Wsh.vS (a:Wsh):lay a.cs [] []=some a.cs:=rfl
theorem Wsh.VR (a b:Wsh):lay a.cs [(0,5)] [.agg b.cs.toArray]=some b.cs:=rfl
theorem Wsh.g0 (a:Wsh):a.cs[0]?=some (.int .i64 a.id.1):=rfl
theorem Wsh.g1 (a:Wsh):a.cs[1]?=some (.int .i64 a.id.2):=rfl
theorem Wsh.s0 (a:Wsh) (x:Int):a.cs.set 0 (.int .i64 x)=({ a with id:=(x,a.id.2) }:Wsh).cs:=rfl
theorem Wsh.s1 (a:Wsh) (x:Int):a.cs.set 1 (.int .i64 x)=({ a with id:=(a.id.1,x) }:Wsh).cs:=rfl
theorem Wsh.Tt (a:Wsh):(a.cs.drop 0).take 2=pc a.id:=rfl
theorem Wsh.qkW (a:Wsh):a.cs.take 2=pc a.id:=rfl
theorem Wsh.Uv (a:Wsh) (x:Int×Int):pc x++a.cs.drop 2=({ a with id:=x }:Wsh).cs:=rfl
theorem Wsh.g2 (a:Wsh):a.cs[2]?=some (.int .i64 a.ticks):=rfl
theorem Wsh.s2 (a:Wsh) (x:Int):a.cs.set 2 (.int .i64 x)=({ a with ticks:=x }:Wsh).cs:=rfl
theorem Wsh.g3 (a:Wsh):a.cs[3]?=some (.int .i64 a.told.1):=rfl
theorem Wsh.g4 (a:Wsh):a.cs[4]?=some (.int .i64 a.told.2):=rfl
theorem Wsh.s3 (a:Wsh) (x:Int):a.cs.set 3 (.int .i64 x)=({ a with told:=(x,a.told.2) }:Wsh).cs:=rfl
theorem Wsh.s4 (a:Wsh) (x:Int):a.cs.set 4 (.int .i64 x)=({ a with told:=(a.told.1,x) }:Wsh).cs:=rfl
theorem Wsh.qkp (a:Wsh):(a.cs.drop 3).take 2=pc a.told:=rfl
theorem Wsh.qvQ (a:Wsh) (x:Int×Int):a.cs.take 3++(pc x++a.cs.drop 5)=({ a with told:=x }:Wsh).cs:=rfl
abbrev Wsh.zero:Wsh:=⟨(0,0),0,(0,0)⟩
theorem Wsh.one (a:Wsh):a.cs.all Value.oneCell'=true:=rfl
theorem qKF:Value.agg (List.toArray [.int .i64 0,.int .i64 0,.int .i64 0,.int .i64 0,.int .i64 0])=.agg (Wsh.zero.cs).toArray:=rfl
theorem qKD (ps:List (Nat×Nat)) (vs:List Value):lay [.int .i64 0,.int .i64 0,.int .i64 0,.int .i64 0,.int .i64 0] ps vs=lay (Wsh.zero.cs) ps vs:=rfl
theorem qKE (t:TypeId) (fr:Nat×Nat):Obj.cells (List.toArray [.int .i64 0,.int .i64 0,.int .i64 0,.int .i64 0,.int .i64 0]) t fr=.cells (Wsh.zero.cs).toArray t fr:=rfl
attribute [go_sem ↓] qKF qKD qKE
theorem Wsh.eq (c d:Wsh):qi [.i .i64,.i .i64,.i .i64,.i .i64,.i .i64] c.cs d.cs=some (decide (c=d)):=by
 refine (show qi _ _ _=_ from (zJ (pX c.id d.id) (zJ (HB c.ticks d.ticks) (pX c.told d.told)))).trans ?_
 congr 1;rw [Bool.eq_iff_iff];cases c;cases d;simp [and_assoc]
attribute [go_sem] Wsh.len Wsh.all Wsh.Kj Wsh.vS Wsh.VR Wsh.g0 Wsh.g1 Wsh.s0 Wsh.s1 Wsh.Tt Wsh.qkW Wsh.Uv Wsh.g2 Wsh.s2 Wsh.g3 Wsh.g4 Wsh.s3 Wsh.s4 Wsh.qkp Wsh.qvQ Wsh.one Wsh.eq
structure Prt where
 inst:Bool
 bal:Bool
 cmd:Bool
 att:Bool
 cel:Bool
 deps:Bool
 data:Bool
 deriving DecidableEq
def Prt.cs (a:Prt):List Value:=[.bool a.inst]++([.bool a.bal]++([.bool a.cmd]++([.bool a.att]++([.bool a.cel]++([.bool a.deps]++([.bool a.data]))))))
abbrev Prt.v (a:Prt):Value:=.agg a.cs.toArray
theorem Prt.len (a:Prt):a.cs.length=7:=rfl
theorem Prt.all (a:Prt):a.cs.take 7=a.cs:=rfl
theorem Prt.Kj (a:Prt):(a.cs.drop 0).take 7=a.cs:=rfl
theorem Prt.vS (a:Prt):lay a.cs [] []=some a.cs:=rfl
theorem Prt.VR (a b:Prt):lay a.cs [(0,7)] [.agg b.cs.toArray]=some b.cs:=rfl
theorem Prt.g0 (a:Prt):a.cs[0]?=some (.bool a.inst):=rfl
theorem Prt.s0 (a:Prt) (x:Bool):a.cs.set 0 (.bool x)=({ a with inst:=x }:Prt).cs:=rfl
theorem Prt.g1 (a:Prt):a.cs[1]?=some (.bool a.bal):=rfl
theorem Prt.s1 (a:Prt) (x:Bool):a.cs.set 1 (.bool x)=({ a with bal:=x }:Prt).cs:=rfl
theorem Prt.g2 (a:Prt):a.cs[2]?=some (.bool a.cmd):=rfl
theorem Prt.s2 (a:Prt) (x:Bool):a.cs.set 2 (.bool x)=({ a with cmd:=x }:Prt).cs:=rfl
theorem Prt.g3 (a:Prt):a.cs[3]?=some (.bool a.att):=rfl
theorem Prt.s3 (a:Prt) (x:Bool):a.cs.set 3 (.bool x)=({ a with att:=x }:Prt).cs:=rfl
theorem Prt.g4 (a:Prt):a.cs[4]?=some (.bool a.cel):=rfl
theorem Prt.s4 (a:Prt) (x:Bool):a.cs.set 4 (.bool x)=({ a with cel:=x }:Prt).cs:=rfl
theorem Prt.g5 (a:Prt):a.cs[5]?=some (.bool a.deps):=rfl
theorem Prt.s5 (a:Prt) (x:Bool):a.cs.set 5 (.bool x)=({ a with deps:=x }:Prt).cs:=rfl
theorem Prt.g6 (a:Prt):a.cs[6]?=some (.bool a.data):=rfl
theorem Prt.s6 (a:Prt) (x:Bool):a.cs.set 6 (.bool x)=({ a with data:=x }:Prt).cs:=rfl
abbrev Prt.zero:Prt:=⟨false,false,false,false,false,false,false⟩
theorem Prt.one (a:Prt):a.cs.all Value.oneCell'=true:=rfl
theorem qKN:Value.agg (List.toArray [.bool false,.bool false,.bool false,.bool false,.bool false,.bool false,.bool false])=.agg (Prt.zero.cs).toArray:=rfl
theorem qKL (ps:List (Nat×Nat)) (vs:List Value):lay [.bool false,.bool false,.bool false,.bool false,.bool false,.bool false,.bool false] ps vs=lay (Prt.zero.cs) ps vs:=rfl
theorem qKM (t:TypeId) (fr:Nat×Nat):Obj.cells (List.toArray [.bool false,.bool false,.bool false,.bool false,.bool false,.bool false,.bool false]) t fr=.cells (Prt.zero.cs).toArray t fr:=rfl
attribute [go_sem ↓] qKN qKL qKM
theorem Prt.eq (c d:Prt):qi [.b,.b,.b,.b,.b,.b,.b] c.cs d.cs=some (decide (c=d)):=by
 refine (show qi _ _ _=_ from (zJ (UF c.inst d.inst) (zJ (UF c.bal d.bal) (zJ (UF c.cmd d.cmd) (zJ (UF c.att d.att) (zJ (UF c.cel d.cel) (zJ (UF c.deps d.deps) (UF c.data d.data)))))))).trans ?_
 congr 1;rw [Bool.eq_iff_iff];cases c;cases d;simp [and_assoc]
attribute [go_sem] Prt.len Prt.all Prt.Kj Prt.vS Prt.VR Prt.g0 Prt.s0 Prt.g1 Prt.s1 Prt.g2 Prt.s2 Prt.g3 Prt.s3 Prt.g4 Prt.s4 Prt.g5 Prt.s5 Prt.g6 Prt.s6 Prt.one Prt.eq
end Go.Fw
namespace Go.Fw
open Go.Proofs
variable {m m0 M:Mem} {S:List Nat} {L:List As}
theorem Spn.qXM (c:Spn) (a b:ByteArray):lay c.cs [(0,1),(1,1)] [.string a,.string b]=some (Spn.mk a b).cs:=rfl
attribute [go_sem] Spn.qXM
abbrev LM (k hi:ByteArray):Prop:=hi=noB∨Op.bytesLess k.data.toList hi.data.toList=true
def Spn.empty (s:Spn):Prop:=¬ LM s.lo s.hi
instance (s:Spn):Decidable s.empty:=by unfold Spn.empty;exact inferInstance
def Eg (a b:Spn):Prop:=¬ a.empty∧¬ b.empty∧LM a.lo b.hi∧LM b.lo a.hi
instance (a b:Spn):Decidable (Eg a b):=by unfold Eg;exact inferInstance
def Cmd.has (c:Cmd):Bool:=decide (c.kind=1∨c.kind=2∨c.kind=3∨c.kind=4∨c.kind=5)
def Cmd.span (c:Cmd):Spn:=if c.kind=1∨c.kind=2∨c.kind=3∨c.kind=4 then ⟨c.key,c.key++⟨#[0]⟩⟩ else if c.kind=5 then ⟨c.key,c.fin⟩ else Spn.zero
abbrev Cmd.writes (c:Cmd):Prop:=c.kind=2∨c.kind=3∨c.kind=4
def fI (a b:Cmd):Prop:=a.has=true∧b.has=true∧(a.client=b.client∨(a.writes∨b.writes)∧Eg a.span b.span)
instance (a b:Cmd):Decidable (fI a b):=by unfold fI;exact inferInstance
theorem qyB {m:Mem} (a b:ByteArray):rd (.str .lss) [.string a,.string b] m=some (.bool (Op.bytesLess a.data.toList b.data.toList)):=rfl
theorem qyC {m:Mem} (a:ByteArray) (h:a.size≤1000):rd (.str .add) [.string a,.string ⟨#[0]⟩] m=some (.string (a++⟨#[0]⟩)):=by
 show (if a.size+1≤9223372036854775807 then _ else _)=_
 rw [if_pos (by omega)]
attribute [go_sem] qyB qyC
theorem qzv (k hi:ByteArray) (m:Mem):MC Tryz.prog MD [.string k,.string hi] m fun v m'=>v=.bool (decide (LM k hi))∧Fr m m' []:=by
 refine Gs (by simp [Tryz.f33]) ?_
 have H:=Hp.refl m []
 simp (disch:=omega) only [go_sem,undef]
 repeat' ((first
  | refine zl H fun _ _ _ _ H=>?_
  | (refine qp (fun hq=>?_) (fun hq=>?_)<;>(try simp only [Bool.not_true,Bool.not_false] at hq))
  | refine qe (fun hq=>?_) (fun hq=>?_)
  | refine wr0 H fun _ _ H=>?_
  | refine wr1 H fun _ _ H=>?_
  | refine wr2 H fun _ _ H=>?_
  | refine wr3 H fun _ _ H=>?_
  | refine JN H rfl rfl fun _ _ H=>?_
  | refine XF H rfl rfl fun _ _ H=>?_)<;>simp (disch:=omega) only [go_sem,undef,H.hs, *])
 all_goals (try simp only [decide_eq_true_eq,decide_eq_false_iff_not] at *)
 all_goals exact ⟨by first | rfl | (simp only [Value.bool.injEq,decide_eq_true_eq,eq_comm (a:=true),eq_comm (a:=false),decide_eq_false_iff_not,decide_eq_decide];grind []),H.fr⟩
theorem qZJ (s:Spn) (m:Mem):MC Tryz.prog MF [s.v] m fun v m'=>v=.bool (decide s.empty)∧Fr m m' []:=by
 refine GD (by simp [Tryz.f33]) ?_
 have H:=Hp.refl m []
 simp (disch:=omega) only [go_sem,undef]
 repeat' ((first
  | refine zl H fun _ _ _ _ H=>?_
  | refine zI H (qzv _ _ _) fun _ _ H=>?_
  | (refine qp (fun hq=>?_) (fun hq=>?_)<;>(try simp only [Bool.not_true,Bool.not_false] at hq))
  | refine qe (fun hq=>?_) (fun hq=>?_)
  | refine wr0 H fun _ _ H=>?_
  | refine wr1 H fun _ _ H=>?_
  | refine wr2 H fun _ _ H=>?_
  | refine wr3 H fun _ _ H=>?_
  | refine JN H rfl rfl fun _ _ H=>?_
  | refine XF H rfl rfl fun _ _ H=>?_)<;>simp (disch:=omega) only [go_sem,undef,H.hs, *])
 all_goals (try simp only [decide_eq_true_eq,decide_eq_false_iff_not] at *)
 all_goals exact ⟨by first | rfl | (simp only [Value.bool.injEq,decide_eq_true_eq,eq_comm (a:=true),eq_comm (a:=false),decide_eq_false_iff_not,decide_eq_decide];grind [Spn.empty]),H.fr⟩
theorem qQc (a b:Spn) (m:Mem):MC Tryz.prog ME [a.v,b.v] m fun v m'=>v=.bool (decide (Eg a b))∧Fr m m' []:=by
 refine GA (by simp [Tryz.f33]) ?_
 have H:=Hp.refl m []
 simp (disch:=omega) only [go_sem,undef]
 repeat' ((first
  | refine zl H fun _ _ _ _ H=>?_
  | refine zI H (qZJ _ _) fun _ _ H=>?_
  | refine zI H (qzv _ _ _) fun _ _ H=>?_
  | (refine qp (fun hq=>?_) (fun hq=>?_)<;>(try simp only [Bool.not_true,Bool.not_false] at hq))
  | refine qe (fun hq=>?_) (fun hq=>?_)
  | refine wr0 H fun _ _ H=>?_
  | refine wr1 H fun _ _ H=>?_
  | refine wr2 H fun _ _ H=>?_
  | refine wr3 H fun _ _ H=>?_
  | refine JN H rfl rfl fun _ _ H=>?_
  | refine XF H rfl rfl fun _ _ H=>?_)<;>simp (disch:=omega) only [go_sem,undef,H.hs, *])
 all_goals (try simp only [decide_eq_true_eq,decide_eq_false_iff_not] at *)
 all_goals exact ⟨by first | rfl | (simp only [Value.bool.injEq,decide_eq_true_eq,eq_comm (a:=true),eq_comm (a:=false),decide_eq_false_iff_not,decide_eq_decide];grind [Eg]),H.fr⟩
theorem qkz (c:Cmd) (m:Mem):MC Tryz.prog MP [c.v] m fun v m'=>v=.bool (decide c.writes)∧Fr m m' []:=by
 refine Ii (by simp [Tryz.f33]) ?_
 have H:=Hp.refl m []
 simp (disch:=omega) only [go_sem,undef]
 repeat' ((first
  | refine zl H fun _ _ _ _ H=>?_
  | (refine qp (fun hq=>?_) (fun hq=>?_)<;>(try simp only [Bool.not_true,Bool.not_false] at hq))
  | refine qe (fun hq=>?_) (fun hq=>?_)
  | refine wr0 H fun _ _ H=>?_
  | refine wr1 H fun _ _ H=>?_
  | refine wr2 H fun _ _ H=>?_
  | refine wr3 H fun _ _ H=>?_
  | refine JN H rfl rfl fun _ _ H=>?_
  | refine XF H rfl rfl fun _ _ H=>?_)<;>simp (disch:=omega) only [go_sem,undef,H.hs, *])
 all_goals (try simp only [decide_eq_true_eq,decide_eq_false_iff_not] at *)
 all_goals exact ⟨by first | rfl | (simp only [Value.bool.injEq,decide_eq_true_eq,eq_comm (a:=true),eq_comm (a:=false),decide_eq_false_iff_not,decide_eq_decide];grind []),H.fr⟩
theorem of_s (k:ByteArray) (hk:k.size≤1000) (m:Mem):MC Tryz.prog qxy [.string k] m fun v m'=>v=(Spn.mk k (k++⟨#[0]⟩)).v∧Fr m m' []:=by
 refine TF (by simp [Tryz.f33]) ?_
 have H:=Hp.refl m []
 simp (disch:=omega) only [go_sem,undef]
 repeat' ((first
  | refine zl H fun _ _ _ _ H=>?_
  | (refine qp (fun hq=>?_) (fun hq=>?_)<;>(try simp only [Bool.not_true,Bool.not_false] at hq))
  | refine qe (fun hq=>?_) (fun hq=>?_)
  | refine wr0 H fun _ _ H=>?_
  | refine wr1 H fun _ _ H=>?_
  | refine wr2 H fun _ _ H=>?_
  | refine wr3 H fun _ _ H=>?_
  | refine JN H rfl rfl fun _ _ H=>?_
  | refine XF H rfl rfl fun _ _ H=>?_)<;>simp (disch:=omega) only [go_sem,undef,H.hs, *])
 all_goals exact ⟨rfl,H.fr⟩
theorem qvF (c:Cmd) (hk:c.key.size≤1000) (m:Mem):MC Tryz.prog Uf [c.v] m fun v m'=>v=.tuple #[c.span.v,.bool c.has]∧Fr m m' []:=by
 refine SN (by simp [Tryz.f33]) ?_
 have H:=Hp.refl m []
 simp (disch:=omega) only [go_sem,undef]
 repeat' ((first
  | refine zl H fun _ _ _ _ H=>?_
  | refine zI H (of_s _ hk _) fun _ _ H=>?_
  | (refine qp (fun hq=>?_) (fun hq=>?_)<;>(try simp only [Bool.not_true,Bool.not_false] at hq))
  | refine qe (fun hq=>?_) (fun hq=>?_)
  | refine wr0 H fun _ _ H=>?_
  | refine wr1 H fun _ _ H=>?_
  | refine wr2 H fun _ _ H=>?_
  | refine wr3 H fun _ _ H=>?_
  | refine JN H rfl rfl fun _ _ H=>?_
  | refine XF H rfl rfl fun _ _ H=>?_)<;>simp (disch:=omega) only [go_sem,undef,H.hs, *])
 all_goals (try simp only [decide_eq_true_eq,decide_eq_false_iff_not] at *)
 all_goals exact ⟨by simp [Cmd.span,Cmd.has, *],H.fr⟩
theorem CL (a b:Cmd) (hk:a.key.size≤1000) (hk2:b.key.size≤1000) (m:Mem):MC Tryz.prog PN [a.v,b.v] m fun v m'=>v=.bool (decide (fI a b))∧Fr m m' []:=by
 refine OW (by simp [Tryz.f33]) ?_
 have H:=Hq.refl m []
 simp (disch:=omega) only [go_sem,undef]
 repeat' (first
  | ((first
   | (with_reducible first
    | refine qh H fun _ _ f H2=>?_
    | refine zG H fun _ f H2=>?_
    | refine Jv H fun _ f H2=>?_
    | refine yZ H fun _ f H2=>?_
    | refine Xb H fun _ f H2=>?_
    | refine Xa H fun _ f H2=>?_
    | refine XY H fun _ f H2=>?_
    | refine qY H (qvF _ hk _) fun _ f H2=>?_
    | refine qY H (qvF _ hk2 _) fun _ f H2=>?_
    | refine qY H (qkz _ _) fun _ f H2=>?_
    | refine qY H (qQc _ _ _) fun _ f H2=>?_)
   | ((with_reducible refine qs H ?hl ?h1 fun _ f H2=>?_);(case hl=>rfl);(case h1=>rfl))
   | ((with_reducible refine zQ H ?hl ?h1 fun _ f H2=>?_);(case hl=>rfl);(case h1=>rfl))
   | ((with_reducible refine jU H ?hl ?h1 fun _ f H2=>?_);(case hl=>rfl);(case h1=>rfl))
   | ((with_reducible refine xm H ?hl ?h1 fun _ f H2=>?_);(case hl=>rfl);(case h1=>rfl))
   | ((with_reducible refine xi H ?hl ?h1 fun _ f H2=>?_);(case hl=>rfl);(case h1=>rfl))
   | ((with_reducible refine xh H ?hl ?h1 fun _ f H2=>?_);(case hl=>rfl);(case h1=>rfl))
   | ((with_reducible refine JQ H ?hl ?h1 fun _ f H2=>?_);(case hl=>exact Nat.le_of_ble_eq_true rfl);(case h1=>rfl);(simp only [go_sem] at H2))
   | ((with_reducible refine Jy H ?hl ?h1 fun _ f H2=>?_);(case hl=>exact Nat.le_of_ble_eq_true rfl);(case h1=>rfl);(simp only [go_sem] at H2))
   | ((with_reducible refine Xd H ?hl ?h1 fun _ f H2=>?_);(case hl=>exact Nat.le_of_ble_eq_true rfl);(case h1=>rfl);(simp only [go_sem] at H2))
   | ((with_reducible refine Xc H ?hl ?h1 fun _ f H2=>?_);(case hl=>exact Nat.le_of_ble_eq_true rfl);(case h1=>rfl);(simp only [go_sem] at H2)));clear f;clear H;have H:=H2;clear H2;simp (disch:=omega) only [go_sem,undef,H.cs, *])
  | ((with_reducible refine qp (fun hq=>?_) (fun hq=>?_))<;>(try simp only [Bool.not_true,Bool.not_false] at hq)<;>simp (disch:=omega) only [go_sem,undef,H.cs, *])
  | ((with_reducible refine qe (fun hq=>?_) (fun hq=>?_))<;>simp (disch:=omega) only [go_sem,undef,H.cs, *]))
 all_goals (try simp only [decide_eq_true_eq,decide_eq_false_iff_not] at *)
 all_goals exact ⟨by first | rfl | (simp only [Value.bool.injEq,decide_eq_true_eq,eq_comm (a:=true),eq_comm (a:=false),decide_eq_false_iff_not,decide_eq_decide];grind [fI]),H.fr⟩
end Go.Fw
namespace Go.Fw
open Go.Proofs
variable {m m0 M:Mem} {S:List Nat} {L:List As}
theorem Lt.aL (c:Lt) (a b d:Int):lay c.cs [(0,1),(1,1),(2,1)] [.int .i64 a,.int .i64 b,.int .i64 d]=some ({ c with kind:=a,src:=b,dst:=d }:Lt).cs:=rfl
theorem Lt.FQ (c:Lt) (k:Int) (p q:Int×Int) (a:Att):lay c.cs [(0,1),(3,2),(5,2),(14,8)] [.int .i64 k,.agg (pc p).toArray,.agg (pc q).toArray,.agg a.cs.toArray]=some ({ c with kind:=k,inst:=p,bal:=q,att:=a }:Lt).cs:=rfl
theorem Lt.PS (c:Lt) (k:Int) (p q:Int×Int) (a:Cel):lay c.cs [(0,1),(3,2),(5,2),(22,21)] [.int .i64 k,.agg (pc p).toArray,.agg (pc q).toArray,.agg a.cs.toArray]=some ({ c with kind:=k,inst:=p,bal:=q,cel:=a }:Lt).cs:=rfl
theorem Lt.PR (c:Lt) (k:Int) (p q:Int×Int):lay c.cs [(0,1),(3,2),(5,2)] [.int .i64 k,.agg (pc p).toArray,.agg (pc q).toArray]=some ({ c with kind:=k,inst:=p,bal:=q }:Lt).cs:=rfl
theorem Lt.qvC (c:Lt) (k:Int) (p:Int×Int) (x:Cmd) (a:Att):lay c.cs [(0,1),(3,2),(7,7),(14,8)] [.int .i64 k,.agg (pc p).toArray,.agg x.cs.toArray,.agg a.cs.toArray]=some ({ c with kind:=k,inst:=p,cmd:=x,att:=a }:Lt).cs:=rfl
theorem Lt.qvB (c:Lt) (p q:Int×Int):lay c.cs [(3,2),(5,2)] [.agg (pc p).toArray,.agg (pc q).toArray]=some ({ c with inst:=p,bal:=q }:Lt).cs:=rfl
attribute [go_sem] Lt.aL Lt.FQ Lt.PS Lt.PR Lt.qvC Lt.qvB
theorem Cel.aL (c:Cel) (s:Int) (p q:Int×Int) (x:Cmd) (a:Att) (b:Bool):lay c.cs [(0,1),(1,2),(3,2),(5,7),(12,8),(20,1)] [.int .i64 s,.agg (pc p).toArray,.agg (pc q).toArray,.agg x.cs.toArray,.agg a.cs.toArray,.bool b]=some (Cel.mk s p q x a b).cs:=rfl
theorem Cel.FQ (c:Cel) (s:Int) (p q:Int×Int) (x:Cmd) (a:Att):lay c.cs [(0,1),(1,2),(3,2),(5,7),(12,8)] [.int .i64 s,.agg (pc p).toArray,.agg (pc q).toArray,.agg x.cs.toArray,.agg a.cs.toArray]=some (Cel.mk s p q x a c.same).cs:=rfl
theorem Cel.PS (c:Cel) (s:Int) (x:Cmd) (a:Att) (b:Bool):lay c.cs [(0,1),(5,7),(12,8),(20,1)] [.int .i64 s,.agg x.cs.toArray,.agg a.cs.toArray,.bool b]=some (Cel.mk s c.pr c.vo x a b).cs:=rfl
theorem Sd.aL (c:Sd) (r:Int) (x:Cel):lay c.cs [(0,1),(1,21)] [.int .i64 r,.agg x.cs.toArray]=some (Sd.mk r x).cs:=rfl
theorem qD.aL (c:qD) (x:Cmd) (s:Int):lay c.cs [(0,7),(7,1)] [.agg x.cs.toArray,.int .i64 s]=some (qD.mk x s).cs:=rfl
theorem Prt.aL (c:Prt) (x y z w:Bool):lay c.cs [(0,1),(1,1),(2,1),(3,1)] [.bool x,.bool y,.bool z,.bool w]=some ({ c with inst:=x,bal:=y,cmd:=z,att:=w }:Prt).cs:=rfl
theorem Prt.FQ (c:Prt) (x y z:Bool):lay c.cs [(0,1),(1,1),(3,1)] [.bool x,.bool y,.bool z]=some ({ c with inst:=x,bal:=y,att:=z }:Prt).cs:=rfl
theorem Prt.PS (c:Prt) (x y z:Bool):lay c.cs [(0,1),(1,1),(4,1)] [.bool x,.bool y,.bool z]=some ({ c with inst:=x,bal:=y,cel:=z }:Prt).cs:=rfl
theorem Prt.PR (c:Prt) (x y:Bool):lay c.cs [(0,1),(1,1)] [.bool x,.bool y]=some ({ c with inst:=x,bal:=y }:Prt).cs:=rfl
theorem Prt.qvC (c:Prt) (x y z:Bool):lay c.cs [(0,1),(2,1),(3,1)] [.bool x,.bool y,.bool z]=some ({ c with inst:=x,cmd:=y,att:=z }:Prt).cs:=rfl
theorem Prt.qvB (c:Prt) (x:Bool):lay c.cs [(5,1)] [.bool x]=some ({ c with deps:=x }:Prt).cs:=rfl
theorem Prt.lay_g (c:Prt) (x:Bool):lay c.cs [(6,1)] [.bool x]=some ({ c with data:=x }:Prt).cs:=rfl
attribute [go_sem] Cel.aL Cel.FQ Cel.PS Sd.aL qD.aL Prt.aL Prt.FQ Prt.PS Prt.PR Prt.qvC Prt.qvB Prt.lay_g
def Prt.of (k:Int):Prt:=if k=1∨k=3 then ⟨true,true,true,true,false,false,false⟩ else if k=2 then ⟨true,true,false,true,false,false,false⟩ else if k=4∨k=6∨k=8 then ⟨true,true,false,false,false,false,false⟩
 else if k=5 then ⟨true,false,true,true,false,false,false⟩ else if k=7 then ⟨true,true,false,false,true,false,false⟩ else if k=9∨k=11 then ⟨false,false,false,false,false,true,false⟩ else if k=10 then ⟨false,false,false,false,false,false,true⟩ else Prt.zero
def Lt.bare (m:Lt) (p:Prt):Lt:=⟨m.kind,m.src,m.dst,if p.inst then m.inst else (0,0),if p.bal then m.bal else (0,0),if p.cmd then m.cmd else Cmd.zero,if p.att then m.att else Att.zero,if p.cel then m.cel else Cel.zero,if p.deps then m.deps else Dp.zero,if p.data then m.data else noB⟩
theorem qQa (k:Int) (m:Mem):MC Tryz.prog Ec [.int .i64 k] m fun v m'=>v=.tuple #[(Prt.of k).v,.bool (decide (1≤k∧k≤11))]∧Fr m m' []:=by
 refine Cw (by simp [Tryz.f33]) ?_
 have H:=Hq.refl m []
 simp (disch:=omega) only [go_sem,undef]
 repeat' (first
  | ((first
   | (with_reducible first
    | refine qh H fun _ _ f H2=>?_
    | refine zG H fun _ f H2=>?_
    | refine Jv H fun _ f H2=>?_
    | refine yZ H fun _ f H2=>?_
    | refine Xb H fun _ f H2=>?_
    | refine Xa H fun _ f H2=>?_
    | refine XY H fun _ f H2=>?_)
   | ((with_reducible refine qs H ?hl ?h1 fun _ f H2=>?_);(case hl=>rfl);(case h1=>rfl))
   | ((with_reducible refine zQ H ?hl ?h1 fun _ f H2=>?_);(case hl=>rfl);(case h1=>rfl))
   | ((with_reducible refine jU H ?hl ?h1 fun _ f H2=>?_);(case hl=>rfl);(case h1=>rfl))
   | ((with_reducible refine xm H ?hl ?h1 fun _ f H2=>?_);(case hl=>rfl);(case h1=>rfl))
   | ((with_reducible refine xi H ?hl ?h1 fun _ f H2=>?_);(case hl=>rfl);(case h1=>rfl))
   | ((with_reducible refine xh H ?hl ?h1 fun _ f H2=>?_);(case hl=>rfl);(case h1=>rfl))
   | ((with_reducible refine JQ H ?hl ?h1 fun _ f H2=>?_);(case hl=>exact Nat.le_of_ble_eq_true rfl);(case h1=>rfl);(simp only [go_sem] at H2))
   | ((with_reducible refine Jy H ?hl ?h1 fun _ f H2=>?_);(case hl=>exact Nat.le_of_ble_eq_true rfl);(case h1=>rfl);(simp only [go_sem] at H2))
   | ((with_reducible refine Xd H ?hl ?h1 fun _ f H2=>?_);(case hl=>exact Nat.le_of_ble_eq_true rfl);(case h1=>rfl);(simp only [go_sem] at H2))
   | ((with_reducible refine Xc H ?hl ?h1 fun _ f H2=>?_);(case hl=>exact Nat.le_of_ble_eq_true rfl);(case h1=>rfl);(simp only [go_sem] at H2)));clear f;clear H;have H:=H2;clear H2;simp (disch:=omega) only [go_sem,undef,H.cs, *])
  | ((with_reducible refine qp (fun hq=>?_) (fun hq=>?_))<;>(try simp only [Bool.not_true,Bool.not_false] at hq)<;>simp (disch:=omega) only [go_sem,undef,H.cs, *])
  | ((with_reducible refine qe (fun hq=>?_) (fun hq=>?_))<;>simp (disch:=omega) only [go_sem,undef,H.cs, *]))
 all_goals (try simp only [decide_eq_true_eq,decide_eq_false_iff_not] at *)
 all_goals (have F:=H.fr;clear H;refine ⟨?_,F⟩;clear F)
 all_goals (rw [show decide (1≤k∧k≤11)=_ from by first | exact decide_eq_true (by omega) | exact decide_eq_false (by omega)];simp [Prt.of, *])
theorem qQj (k:Int) (m:Mem):MC Tryz.prog Eb [.int .i64 k] m fun v m'=>v=.bool (decide (0≤k∧k < 7))∧Fr m m' []:=by
 refine BP (by simp [Tryz.f33]) ?_
 have H:=Hq.refl m []
 simp (disch:=omega) only [go_sem,undef]
 repeat' (first
  | ((first
   | (with_reducible first
    | refine qh H fun _ _ f H2=>?_
    | refine zG H fun _ f H2=>?_
    | refine Jv H fun _ f H2=>?_
    | refine yZ H fun _ f H2=>?_
    | refine Xb H fun _ f H2=>?_
    | refine Xa H fun _ f H2=>?_
    | refine XY H fun _ f H2=>?_)
   | ((with_reducible refine qs H ?hl ?h1 fun _ f H2=>?_);(case hl=>rfl);(case h1=>rfl))
   | ((with_reducible refine zQ H ?hl ?h1 fun _ f H2=>?_);(case hl=>rfl);(case h1=>rfl))
   | ((with_reducible refine jU H ?hl ?h1 fun _ f H2=>?_);(case hl=>rfl);(case h1=>rfl))
   | ((with_reducible refine xm H ?hl ?h1 fun _ f H2=>?_);(case hl=>rfl);(case h1=>rfl))
   | ((with_reducible refine xi H ?hl ?h1 fun _ f H2=>?_);(case hl=>rfl);(case h1=>rfl))
   | ((with_reducible refine xh H ?hl ?h1 fun _ f H2=>?_);(case hl=>rfl);(case h1=>rfl))
   | ((with_reducible refine JQ H ?hl ?h1 fun _ f H2=>?_);(case hl=>exact Nat.le_of_ble_eq_true rfl);(case h1=>rfl);(simp only [go_sem] at H2))
   | ((with_reducible refine Jy H ?hl ?h1 fun _ f H2=>?_);(case hl=>exact Nat.le_of_ble_eq_true rfl);(case h1=>rfl);(simp only [go_sem] at H2))
   | ((with_reducible refine Xd H ?hl ?h1 fun _ f H2=>?_);(case hl=>exact Nat.le_of_ble_eq_true rfl);(case h1=>rfl);(simp only [go_sem] at H2))
   | ((with_reducible refine Xc H ?hl ?h1 fun _ f H2=>?_);(case hl=>exact Nat.le_of_ble_eq_true rfl);(case h1=>rfl);(simp only [go_sem] at H2)));clear f;clear H;have H:=H2;clear H2;simp (disch:=omega) only [go_sem,undef,H.cs, *])
  | ((with_reducible refine qp (fun hq=>?_) (fun hq=>?_))<;>(try simp only [Bool.not_true,Bool.not_false] at hq)<;>simp (disch:=omega) only [go_sem,undef,H.cs, *])
  | ((with_reducible refine qe (fun hq=>?_) (fun hq=>?_))<;>simp (disch:=omega) only [go_sem,undef,H.cs, *]))
 all_goals (try simp only [decide_eq_true_eq,decide_eq_false_iff_not] at *)
 all_goals exact ⟨by first | rfl | (simp only [Value.bool.injEq,decide_eq_true_eq,eq_comm (a:=true),eq_comm (a:=false),decide_eq_false_iff_not,decide_eq_decide];grind []),H.fr⟩
theorem Prt.cases (k:Int) {P:Prt→Prop} (h1:P ⟨true,true,true,true,false,false,false⟩) (h2:P ⟨true,true,false,true,false,false,false⟩) (h3:P ⟨true,true,false,false,false,false,false⟩) (h4:P ⟨true,false,true,true,false,false,false⟩) (h5:P ⟨true,true,false,false,true,false,false⟩) (h6:P ⟨false,false,false,false,false,true,false⟩) (h7:P ⟨false,false,false,false,false,false,true⟩) (h8:P ⟨false,false,false,false,false,false,false⟩):P (Prt.of k):=by
 unfold Prt.of
 repeat' split
 all_goals assumption
theorem qKA (m:Lt) (k:Int) (M:Mem):MC Tryz.prog lH [m.v,(Prt.of k).v] M fun v m'=>v=(m.bare (Prt.of k)).v∧Fr M m' []:=by
 refine Prt.cases k (P:=fun p=>MC Tryz.prog lH [m.v,p.v] M fun v m'=>v=(m.bare p).v∧Fr M m' []) ?_ ?_ ?_ ?_ ?_ ?_ ?_ ?_
 all_goals
  refine Fv (by simp [Tryz.f33]) ?_
  have H:=Hq.refl M []
  simp (disch:=omega) only [go_sem,undef]
  repeat' (first
   | ((first
    | (with_reducible first
     | refine qh H fun _ _ f H2=>?_
     | refine zG H fun _ f H2=>?_
     | refine Jv H fun _ f H2=>?_
     | refine yZ H fun _ f H2=>?_
     | refine Xb H fun _ f H2=>?_
     | refine Xa H fun _ f H2=>?_
     | refine XY H fun _ f H2=>?_)
    | ((with_reducible refine qs H ?hl ?h1 fun _ f H2=>?_);(case hl=>rfl);(case h1=>rfl))
    | ((with_reducible refine zQ H ?hl ?h1 fun _ f H2=>?_);(case hl=>rfl);(case h1=>rfl))
    | ((with_reducible refine jU H ?hl ?h1 fun _ f H2=>?_);(case hl=>rfl);(case h1=>rfl))
    | ((with_reducible refine xm H ?hl ?h1 fun _ f H2=>?_);(case hl=>rfl);(case h1=>rfl))
    | ((with_reducible refine xi H ?hl ?h1 fun _ f H2=>?_);(case hl=>rfl);(case h1=>rfl))
    | ((with_reducible refine xh H ?hl ?h1 fun _ f H2=>?_);(case hl=>rfl);(case h1=>rfl))
    | ((with_reducible refine JQ H ?hl ?h1 fun _ f H2=>?_);(case hl=>exact Nat.le_of_ble_eq_true rfl);(case h1=>rfl);(simp only [go_sem] at H2))
    | ((with_reducible refine Jy H ?hl ?h1 fun _ f H2=>?_);(case hl=>exact Nat.le_of_ble_eq_true rfl);(case h1=>rfl);(simp only [go_sem] at H2))
    | ((with_reducible refine Xd H ?hl ?h1 fun _ f H2=>?_);(case hl=>exact Nat.le_of_ble_eq_true rfl);(case h1=>rfl);(simp only [go_sem] at H2))
    | ((with_reducible refine Xc H ?hl ?h1 fun _ f H2=>?_);(case hl=>exact Nat.le_of_ble_eq_true rfl);(case h1=>rfl);(simp only [go_sem] at H2)));clear f;clear H;have H:=H2;clear H2;simp (disch:=omega) only [go_sem,undef,H.cs, *])
   | ((with_reducible refine qp (fun hq=>?_) (fun hq=>?_))<;>(try simp only [Bool.not_true,Bool.not_false] at hq)<;>simp (disch:=omega) only [go_sem,undef,H.cs, *])
   | ((with_reducible refine qe (fun hq=>?_) (fun hq=>?_))<;>simp (disch:=omega) only [go_sem,undef,H.cs, *]))
  exact ⟨rfl,H.fr⟩
def Lt.right (m:Lt):Prop:=(1≤m.kind∧m.kind≤11)∧(0≤m.src∧m.src < 7)∧(0≤m.dst∧m.dst < 7)∧m.src≠m.dst∧m=m.bare (Prt.of m.kind)∧((Prt.of m.kind).inst=true→qN m.inst)∧vI m.bal∧m.cmd.right∧xW m.att∧m.cel.right∧xW ⟨0,m.deps⟩∧m.data.size≤16384
instance (m:Lt):Decidable m.right:=by unfold Lt.right;exact inferInstance
end Go.Fw
namespace Go.Fw
open Go.Proofs
variable {m m0 M:Mem} {S:List Nat} {L:List As}
theorem Att.PR (c:Att) (d:Dp):lay c.cs [(1,7)] [.agg (dv d).toArray]=some ({ c with deps:=d }:Att).cs:=rfl
theorem eN (m:Lt) (M:Mem):MC Tryz.prog Ed [m.v] M fun v m'=>v=.bool (decide m.right)∧Fr M m' []:=by
 refine Cf (by simp [Tryz.f33]) ?_
 have H:=Hq.refl M []
 simp (disch:=omega) only [go_sem,undef]
 repeat' (first
  | ((first
   | (with_reducible first
    | refine qh H fun _ _ f H2=>?_
    | refine zG H fun _ f H2=>?_
    | refine Jv H fun _ f H2=>?_
    | refine yZ H fun _ f H2=>?_
    | refine Xb H fun _ f H2=>?_
    | refine Xa H fun _ f H2=>?_
    | refine XY H fun _ f H2=>?_
    | refine qY H (qQa _ _) fun _ f H2=>?_
    | refine qY H (qQj _ _) fun _ f H2=>?_
    | refine qY H (qKA _ _ _) fun _ f H2=>?_
    | refine qY H (zX _ _) fun _ f H2=>?_
    | refine qY H (xP _ _) fun _ f H2=>?_
    | refine qY H (ju _ _) fun _ f H2=>?_
    | refine qY H (zK _ _) fun _ f H2=>?_
    | refine qY H (xN _ _) fun _ f H2=>?_)
   | ((with_reducible refine qs H ?hl ?h1 fun _ f H2=>?_);(case hl=>rfl);(case h1=>rfl))
   | ((with_reducible refine zQ H ?hl ?h1 fun _ f H2=>?_);(case hl=>rfl);(case h1=>rfl))
   | ((with_reducible refine jU H ?hl ?h1 fun _ f H2=>?_);(case hl=>rfl);(case h1=>rfl))
   | ((with_reducible refine xm H ?hl ?h1 fun _ f H2=>?_);(case hl=>rfl);(case h1=>rfl))
   | ((with_reducible refine xi H ?hl ?h1 fun _ f H2=>?_);(case hl=>rfl);(case h1=>rfl))
   | ((with_reducible refine xh H ?hl ?h1 fun _ f H2=>?_);(case hl=>rfl);(case h1=>rfl))
   | ((with_reducible refine JQ H ?hl ?h1 fun _ f H2=>?_);(case hl=>exact Nat.le_of_ble_eq_true rfl);(case h1=>rfl);(simp only [go_sem] at H2))
   | ((with_reducible refine Jy H ?hl ?h1 fun _ f H2=>?_);(case hl=>exact Nat.le_of_ble_eq_true rfl);(case h1=>rfl);(simp only [go_sem] at H2))
   | ((with_reducible refine Xd H ?hl ?h1 fun _ f H2=>?_);(case hl=>exact Nat.le_of_ble_eq_true rfl);(case h1=>rfl);(simp only [go_sem] at H2))
   | ((with_reducible refine Xc H ?hl ?h1 fun _ f H2=>?_);(case hl=>exact Nat.le_of_ble_eq_true rfl);(case h1=>rfl);(simp only [go_sem] at H2)));clear f;clear H;have H:=H2;clear H2;simp (disch:=omega) only [go_sem,undef,H.cs, *])
  | ((with_reducible refine qp (fun hq=>?_) (fun hq=>?_))<;>(try simp only [Bool.not_true,Bool.not_false] at hq)<;>simp (disch:=omega) only [go_sem,undef,H.cs, *])
  | ((with_reducible refine qe (fun hq=>?_) (fun hq=>?_))<;>simp (disch:=omega) only [go_sem,undef,H.cs, *]))
 all_goals (try simp only [decide_eq_true_eq,decide_eq_false_iff_not] at *)
 all_goals (have F:=H.fr;clear H;refine ⟨?_,F⟩;clear F)
 all_goals first
  | exact congrArg Value.bool (decide_eq_false fun h:m.right=>absurd (h.1) (by assumption)).symm
  | exact congrArg Value.bool (decide_eq_false fun h:m.right=>absurd (h.2.1) (by assumption)).symm
  | exact congrArg Value.bool (decide_eq_false fun h:m.right=>absurd (h.2.2.1) (by assumption)).symm
  | exact congrArg Value.bool (decide_eq_false fun h:m.right=>absurd (by assumption) (h.2.2.2.1)).symm
  | exact congrArg Value.bool (decide_eq_false fun h:m.right=>absurd (h.2.2.2.2.1) (by assumption)).symm
  | exact congrArg Value.bool (decide_eq_false fun h:m.right=>absurd (h.2.2.2.2.2.1 (by assumption)) (by assumption)).symm
  | exact congrArg Value.bool (decide_eq_false fun h:m.right=>absurd (h.2.2.2.2.2.2.1) (by assumption)).symm
  | exact congrArg Value.bool (decide_eq_false fun h:m.right=>absurd (h.2.2.2.2.2.2.2.1) (by assumption)).symm
  | exact congrArg Value.bool (decide_eq_false fun h:m.right=>absurd (h.2.2.2.2.2.2.2.2.1) (by assumption)).symm
  | exact congrArg Value.bool (decide_eq_false fun h:m.right=>absurd (h.2.2.2.2.2.2.2.2.2.1) (by assumption)).symm
  | exact congrArg Value.bool (decide_eq_false fun h:m.right=>absurd (h.2.2.2.2.2.2.2.2.2.2.1) (by assumption)).symm
  | exact congrArg Value.bool (decide_eq_false fun h:m.right=>absurd (h.2.2.2.2.2.2.2.2.2.2.2) (by assumption)).symm
  | exact congrArg Value.bool (decide_eq_decide.2 ⟨fun h=>⟨by assumption,by assumption,by assumption,by assumption,by assumption,fun h2=>(by first | assumption | exact Bool.noConfusion (h2.symm.trans (by assumption:(Prt.of m.kind).inst=false))),by assumption,by assumption,by assumption,by assumption,by assumption,by omega⟩,fun h:m.right=>by have:=h.2.2.2.2.2.2.2.2.2.2.2;omega⟩)
end Go.Fw
namespace Go.Fw
open Go.Proofs
variable {m m0 M:Mem} {S:List Nat} {L:List As}
def xL (a b:Att):Att:=⟨max a.seq b.seq,fun i=>max (a.deps i) (b.deps i)⟩
def xq:List Att→Att
 | []=>Att.zero
 | x::r=>r.foldl xL x
theorem qXR (a b:Att) (k:Nat) (h:k < 7):(xL a b).deps.g k=max (a.deps.g k) (b.deps.g k):=by simp [Dp.g,h,xL]
theorem US {α β:Type} (f:β→α→β) (x:β) (l:List α) (j:Nat) (y:α) (h:l[j]?=some y):(l.take (j+1)).foldl f x=f ((l.take j).foldl f x) y:=by
 rw [List.take_add_one,h];simp
theorem cY {a:Option Addr} {c n:Nat} {l:List Att} (hl:l.length=n) (hv:RdS 8 Att.cs m (.slice a n c) l) (h0:0 < n) (hn:n≤1000):MC Tryz.prog PL [.slice a n c] m fun v m'=>v=(xq l).v∧Fr m m' []:=by
 subst hl
 obtain ⟨x,r,rfl⟩:∃ x r,l=x::r:=by cases l with
  | nil=>simp at h0
  | cons x r=>exact ⟨x,r,rfl⟩
 obtain ⟨a1,c1,hc1,hr1,_⟩:=hv.cut (by decide) 1 (x::r).length (by simp) (Nat.le_refl _)
 rw [List.take_length] at hr1
 obtain ⟨b1,o1,hx1,hix,hE⟩:∃ b o,(x::r)[0]?=some x∧IxAt 8 (.slice a (x::r).length c) 0 b o∧El 8 Att.cs m b o x:=by
  refine RdS.elK hv h0 (by decide) fun b o y hy hi he=>?_
  cases hy
  exact ⟨b,o,rfl,hi,he⟩
 have hlr:(x::r).length - 1=r.length:=rfl
 have hr2:RdS 8 Att.cs m (.slice a1 r.length c1) r:=hr1
 clear hr1
 rw [hlr] at hc1
 have hn1:(x::r).length=r.length+1:=rfl
 have hjl:xq (x::r)=(r.take r.length).foldl xL x:=by rw [List.take_length];rfl
 rw [hjl]
 clear hjl hv
 generalize (x::r).length=n at *
 refine NF (by simp [Tryz.f33]) ?_
 have H:=Hq.refl m []
 have nc1:((1:Nat):Int)=1:=rfl
 rw [nc1] at hc1
 have hix0:∀ M,rd (.ixs 8) [.slice a n c,.int .i64 0] M=some (.pointer (some ⟨b1,o1,none⟩)):=fun M=>hix _ M
 simp (disch:=omega) only [go_sem,undef]
 refine qh H fun b M f H=>?_
 simp (disch:=omega) only [go_sem,undef,qZ (show ¬ ((n:Nat):Int)=0 by omega),hix0,(hE.frame f).uZ 8 (by decide) (by decide)]
 refine qh H fun b3 M f H=>?_
 simp (disch:=omega) only [go_sem,undef,H.cs]
 refine qs H rfl rfl fun M f H=>?_
 simp (disch:=omega) only [go_sem,undef,hc1]
 refine ql (fun k E m'=>∃ (j:Nat) (y:Att),j≤r.length∧k=r.length - j∧y=(r.take j).foldl xL x∧E=[(2,.pointer (some ⟨b,0,none⟩)),(3,.pointer (some ⟨b3,0,none⟩)),(16,.slice a1 r.length c1),(17,.int .i64 (r.length:Nat)),(18,.int .i64 (j:Nat))] ∧
  Hq m m' [] [qv b3 (.cells y.cs.toArray qb),qv b (.cells Att.zero.cs.toArray qb)]) r.length rfl ⟨0,x,by omega,rfl,rfl,rfl,H⟩ ?_
 clear H f hE hix0
 rintro k E M1 ⟨j,y,hj,rfl,hy,rfl,H⟩
 by_cases hlt:j < r.length
 ·refine RdS.elK (hr2.frame H.fr) hlt (by decide) fun bx o z hz hixz hEz=>?_
  have hs:=US xL x r j z hz
  rw [← hy] at hs
  simp (disch:=omega) only [go_sem,undef,qX (show ((j:Nat):Int) < (r.length:Nat) by omega),hixz,hEz.uZ 8 (by decide) (by decide)]
  refine qh H fun b5 M f H=>?_
  simp (disch:=omega) only [go_sem,undef,H.cs]
  refine qs H rfl rfl fun M f H=>?_
  simp (disch:=omega) only [go_sem,undef,H.cs]
  refine Jv H fun M f H=>?_
  simp (disch:=omega) only [go_sem,undef,H.cs]
  refine ql (fun k E m'=>∃ (i:Nat) (d:Dp),i≤7∧k=7 - i∧(∀ t,t < i→d.g t=max (y.deps.g t) (z.deps.g t))∧(∀ t,i≤t→d.g t=y.deps.g t)∧E=[(2,.pointer (some ⟨b,0,none⟩)),(3,.pointer (some ⟨b3,0,none⟩)),(16,.slice a1 r.length c1),(17,.int .i64 (r.length:Nat)),(18,.int .i64 (j:Nat)),(29,.agg (dv z.deps).toArray),(30,.int .i64 (i:Nat))] ∧
   Hq m m' [] [qv b5 (.cells z.cs.toArray qb),qv b3 (.cells (Att.mk (max y.seq z.seq) d).cs.toArray qb),qv b (.cells Att.zero.cs.toArray qb)]) 7 rfl ⟨0,y.deps,by omega,rfl,by simp,by simp,rfl,H⟩ ?_
  clear H f hEz hixz
  rintro k E M2 ⟨i,d,hi,rfl,hd1,hd2,rfl,H⟩
  by_cases hlt7:i < 7
  ·simp (disch:=omega) only [go_sem,undef,qX (show ((i:Nat):Int) < 7 by omega),H.cs]
   refine Jv H fun M f H=>?_
   simp (disch:=omega) only [go_sem,undef]
   refine qV (7 - (i+1)) (by omega) ⟨i+1,_,by omega,rfl,fun t ht=>?_,fun t ht=>?_,rfl,H⟩
   ·rw [Dp.tY]
    by_cases e:t=i
    ·subst e;rw [if_pos ⟨rfl,hlt7⟩,hd2 t (Nat.le_refl _)]
    ·rw [if_neg (fun h=>e h.1)];exact hd1 t (by omega)
   ·rw [Dp.tY,if_neg (by omega)];exact hd2 t (by omega)
  ·have e:d=(xL y z).deps:=Dp.rH fun t ht=>by rw [qXR y z t ht];exact hd1 t (by omega)
   subst e
   simp (disch:=omega) only [go_sem,undef,qZ (show ¬ ((i:Nat):Int) < 7 by omega)]
   exact qV (r.length - (j+1)) (by omega) ⟨j+1,xL y z,by omega,rfl,hs.symm,rfl,H.tail⟩
 ·have e:j=r.length:=by omega
  subst e
  simp (disch:=omega) only [go_sem,undef,qZ (show ¬ ((r.length:Nat):Int) < (r.length:Nat) by omega),H.cs]
  refine zQ H rfl rfl fun M f H=>?_
  simp (disch:=omega) only [go_sem,undef,H.cs]
  exact ⟨by rw [hy],H.fr⟩
end Go.Fw
