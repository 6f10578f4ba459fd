import Derived.Test.YtimedjfpihdffaaGreatFxA
import Derived.Test.YtimedjfpihdffaaGreatBa
set_option linter.unusedVariables false
set_option linter.unusedSimpArgs false
namespace Go.Fw
open Go
theorem leaf_two {k1 k2:List LK} {x1 y1 x2 y2:List Value} {p q:Prop} [Decidable p] [Decidable q] (h1:leafEq k1 x1 y1 = some (decide p)) (h2:leafEq k2 x2 y2 = some (decide q)):leafEq (k1 ++ k2) (x1 ++ x2) (y1 ++ y2) = some (decide (p ∧ q)):=by
  rw [leafEq_app k1 h1,h2,Option.map_some]; congr 1; by_cases hp:p <;> by_cases hq:q <;> simp [hp,hq]
theorem le_i (a b:Int):leafEq [.i .i64] [.int .i64 a] [.int .i64 b] = some (decide (a = b)):=by rw [leafEq_cons,le1_i]; simp [leafEq_nil]
theorem le_b (a b:Bool):leafEq [.b] [.bool a] [.bool b] = some (decide (a = b)):=by rw [leafEq_cons,le1_b]; simp [leafEq_nil]
theorem le_s (a b:ByteArray):leafEq [.s] [.string a] [.string b] = some (decide (a = b)):=by rw [leafEq_cons,le1_str]; simp [leafEq_nil]
structure Lt where
  kind:Int
  src:Int
  dst:Int
  inst:Int × Int
  bal:Int × Int
  cmd:Cmd
  att:Att
  cel:Cel
  deps:Dp
  data:ByteArray
  deriving DecidableEq
def Lt.cs (a:Lt):List Value:=[.int .i64 a.kind] ++ ([.int .i64 a.src] ++ ([.int .i64 a.dst] ++ (pc a.inst ++ (pc a.bal ++ (a.cmd.cs ++ (a.att.cs ++ (a.cel.cs ++ (dv a.deps ++ ([.string a.data])))))))))
abbrev Lt.v (a:Lt):Value:=.agg a.cs.toArray
theorem Lt.len (a:Lt):a.cs.length = 51:=rfl
theorem Lt.all (a:Lt):a.cs.take 51 = a.cs:=rfl
theorem Lt.drop0 (a:Lt):(a.cs.drop 0).take 51 = a.cs:=rfl
theorem Lt.lay_0 (a:Lt):lay a.cs [] [] = some a.cs:=rfl
theorem Lt.layw (a b:Lt):lay a.cs [(0,51)] [.agg b.cs.toArray] = some b.cs:=rfl
theorem Lt.g0 (a:Lt):a.cs[0]? = some (.int .i64 a.kind):=rfl
theorem Lt.s0 (a:Lt) (x:Int):a.cs.set 0 (.int .i64 x) = ({ a with kind:=x }:Lt).cs:=rfl
theorem Lt.g1 (a:Lt):a.cs[1]? = some (.int .i64 a.src):=rfl
theorem Lt.s1 (a:Lt) (x:Int):a.cs.set 1 (.int .i64 x) = ({ a with src:=x }:Lt).cs:=rfl
theorem Lt.g2 (a:Lt):a.cs[2]? = some (.int .i64 a.dst):=rfl
theorem Lt.s2 (a:Lt) (x:Int):a.cs.set 2 (.int .i64 x) = ({ a with dst:=x }:Lt).cs:=rfl
theorem Lt.g3 (a:Lt):a.cs[3]? = some (.int .i64 a.inst.1):=rfl
theorem Lt.g4 (a:Lt):a.cs[4]? = some (.int .i64 a.inst.2):=rfl
theorem Lt.s3 (a:Lt) (x:Int):a.cs.set 3 (.int .i64 x) = ({ a with inst:=(x,a.inst.2) }:Lt).cs:=rfl
theorem Lt.s4 (a:Lt) (x:Int):a.cs.set 4 (.int .i64 x) = ({ a with inst:=(a.inst.1,x) }:Lt).cs:=rfl
theorem Lt.sub_inst (a:Lt):(a.cs.drop 3).take 2 = pc a.inst:=rfl
theorem Lt.put_inst (a:Lt) (x:Int × Int):a.cs.take 3 ++ (pc x ++ a.cs.drop 5) = ({ a with inst:=x }:Lt).cs:=rfl
theorem Lt.g5 (a:Lt):a.cs[5]? = some (.int .i64 a.bal.1):=rfl
theorem Lt.g6 (a:Lt):a.cs[6]? = some (.int .i64 a.bal.2):=rfl
theorem Lt.s5 (a:Lt) (x:Int):a.cs.set 5 (.int .i64 x) = ({ a with bal:=(x,a.bal.2) }:Lt).cs:=rfl
theorem Lt.s6 (a:Lt) (x:Int):a.cs.set 6 (.int .i64 x) = ({ a with bal:=(a.bal.1,x) }:Lt).cs:=rfl
theorem Lt.sub_bal (a:Lt):(a.cs.drop 5).take 2 = pc a.bal:=rfl
theorem Lt.put_bal (a:Lt) (x:Int × Int):a.cs.take 5 ++ (pc x ++ a.cs.drop 7) = ({ a with bal:=x }:Lt).cs:=rfl
theorem Lt.g7 (a:Lt):a.cs[7]? = some (.int .i64 a.cmd.kind):=rfl
theorem Lt.g8 (a:Lt):a.cs[8]? = some (.int .i64 a.cmd.client):=rfl
theorem Lt.g9 (a:Lt):a.cs[9]? = some (.int .i64 a.cmd.seq):=rfl
theorem Lt.g10 (a:Lt):a.cs[10]? = some (.string a.cmd.key):=rfl
theorem Lt.g11 (a:Lt):a.cs[11]? = some (.string a.cmd.fin):=rfl
theorem Lt.g12 (a:Lt):a.cs[12]? = some (.string a.cmd.old):=rfl
theorem Lt.g13 (a:Lt):a.cs[13]? = some (.string a.cmd.val):=rfl
theorem Lt.sub_cmd (a:Lt):(a.cs.drop 7).take 7 = a.cmd.cs:=rfl
theorem Lt.put_cmd (a:Lt) (x:Cmd):a.cs.take 7 ++ (x.cs ++ a.cs.drop 14) = ({ a with cmd:=x }:Lt).cs:=rfl
theorem Lt.g14 (a:Lt):a.cs[14]? = some (.int .i64 a.att.seq):=rfl
theorem Lt.sub_att (a:Lt):(a.cs.drop 14).take 8 = a.att.cs:=rfl
theorem Lt.put_att (a:Lt) (x:Att):a.cs.take 14 ++ (x.cs ++ a.cs.drop 22) = ({ a with att:=x }:Lt).cs:=rfl
theorem Lt.g22 (a:Lt):a.cs[22]? = some (.int .i64 a.cel.st):=rfl
theorem Lt.sub_cel (a:Lt):(a.cs.drop 22).take 21 = a.cel.cs:=rfl
theorem Lt.put_cel (a:Lt) (x:Cel):a.cs.take 22 ++ (x.cs ++ a.cs.drop 43) = ({ a with cel:=x }:Lt).cs:=rfl
theorem Lt.sub_deps (a:Lt):(a.cs.drop 43).take 7 = dv a.deps:=rfl
theorem Lt.put_deps (a:Lt) (x:Dp):a.cs.take 43 ++ (dv x ++ a.cs.drop 50) = ({ a with deps:=x }:Lt).cs:=rfl
theorem Lt.gd_deps (a:Lt) (k:Nat) (h:k < 7):a.cs[43 + k]? = some (.int .i64 (a.deps.g k)):=by
  match k,h with
  | 0,_ | 1,_ | 2,_ | 3,_ | 4,_ | 5,_ | 6,_ => rfl
theorem Lt.sd_deps (a:Lt) (k:Nat) (x:Int) (h:k < 7):a.cs.set (43 + k) (.int .i64 x) = ({ a with deps:=Dp.up a.deps k x }:Lt).cs:=by
  match k,h with
  | 0,_ | 1,_ | 2,_ | 3,_ | 4,_ | 5,_ | 6,_ => rfl
theorem Lt.g50 (a:Lt):a.cs[50]? = some (.string a.data):=rfl
theorem Lt.s50 (a:Lt) (x:ByteArray):a.cs.set 50 (.string x) = ({ a with data:=x }:Lt).cs:=rfl
abbrev Lt.zero:Lt:=⟨0,0,0,(0,0),(0,0),Cmd.zero,Att.zero,Cel.zero,Dp.zero,noB⟩
theorem Lt.one (a:Lt):a.cs.all Value.oneCell' = true:=rfl
theorem Lt_fa:Value.agg (List.toArray [.int .i64 0,.int .i64 0,.int .i64 0,.int .i64 0,.int .i64 0,.int .i64 0,.int .i64 0,.int .i64 0,.int .i64 0,.int .i64 0,.string noB,.string noB,.string noB,.string noB,.int .i64 0,.int .i64 0,.int .i64 0,.int .i64 0,.int .i64 0,.int .i64 0,.int .i64 0,.int .i64 0,.int .i64 0,.int .i64 0,.int .i64 0,.int .i64 0,.int .i64 0,.int .i64 0,.int .i64 0,.int .i64 0,.string noB,.string noB,.string noB,.string noB,.int .i64 0,.int .i64 0,.int .i64 0,.int .i64 0,.int .i64 0,.int .i64 0,.int .i64 0,.int .i64 0,.bool false,.int .i64 0,.int .i64 0,.int .i64 0,.int .i64 0,.int .i64 0,.int .i64 0,.int .i64 0,.string noB]) = .agg (Lt.zero.cs).toArray:=rfl
theorem Lt_fl (ps:List (Nat × Nat)) (vs:List Value):lay [.int .i64 0,.int .i64 0,.int .i64 0,.int .i64 0,.int .i64 0,.int .i64 0,.int .i64 0,.int .i64 0,.int .i64 0,.int .i64 0,.string noB,.string noB,.string noB,.string noB,.int .i64 0,.int .i64 0,.int .i64 0,.int .i64 0,.int .i64 0,.int .i64 0,.int .i64 0,.int .i64 0,.int .i64 0,.int .i64 0,.int .i64 0,.int .i64 0,.int .i64 0,.int .i64 0,.int .i64 0,.int .i64 0,.string noB,.string noB,.string noB,.string noB,.int .i64 0,.int .i64 0,.int .i64 0,.int .i64 0,.int .i64 0,.int .i64 0,.int .i64 0,.int .i64 0,.bool false,.int .i64 0,.int .i64 0,.int .i64 0,.int .i64 0,.int .i64 0,.int .i64 0,.int .i64 0,.string noB] ps vs = lay (Lt.zero.cs) ps vs:=rfl
theorem Lt_fc (t:TypeId) (fr:Nat × Nat):Obj.cells (List.toArray [.int .i64 0,.int .i64 0,.int .i64 0,.int .i64 0,.int .i64 0,.int .i64 0,.int .i64 0,.int .i64 0,.int .i64 0,.int .i64 0,.string noB,.string noB,.string noB,.string noB,.int .i64 0,.int .i64 0,.int .i64 0,.int .i64 0,.int .i64 0,.int .i64 0,.int .i64 0,.int .i64 0,.int .i64 0,.int .i64 0,.int .i64 0,.int .i64 0,.int .i64 0,.int .i64 0,.int .i64 0,.int .i64 0,.string noB,.string noB,.string noB,.string noB,.int .i64 0,.int .i64 0,.int .i64 0,.int .i64 0,.int .i64 0,.int .i64 0,.int .i64 0,.int .i64 0,.bool false,.int .i64 0,.int .i64 0,.int .i64 0,.int .i64 0,.int .i64 0,.int .i64 0,.int .i64 0,.string noB]) t fr = .cells (Lt.zero.cs).toArray t fr:=rfl
attribute [go_sem ↓] Lt_fa Lt_fl Lt_fc
theorem Lt.eq (c d:Lt):leafEq [.i .i64,.i .i64,.i .i64,.i .i64,.i .i64,.i .i64,.i .i64,.i .i64,.i .i64,.i .i64,.s,.s,.s,.s,.i .i64,.i .i64,.i .i64,.i .i64,.i .i64,.i .i64,.i .i64,.i .i64,.i .i64,.i .i64,.i .i64,.i .i64,.i .i64,.i .i64,.i .i64,.i .i64,.s,.s,.s,.s,.i .i64,.i .i64,.i .i64,.i .i64,.i .i64,.i .i64,.i .i64,.i .i64,.b,.i .i64,.i .i64,.i .i64,.i .i64,.i .i64,.i .i64,.i .i64,.s] c.cs d.cs = some (decide (c = d)):=by
  refine (show leafEq _ _ _ = _ from (leaf_two (le_i c.kind d.kind) (leaf_two (le_i c.src d.src) (leaf_two (le_i c.dst d.dst) (leaf_two (pc_eq c.inst d.inst) (leaf_two (pc_eq c.bal d.bal) (leaf_two (Cmd.eq c.cmd d.cmd) (leaf_two (Att.eq c.att d.att) (leaf_two (Cel.eq c.cel d.cel) (leaf_two (dv_eq c.deps d.deps) (le_s c.data d.data))))))))))).trans ?_
  congr 1; rw [Bool.eq_iff_iff]; cases c; cases d; simp [and_assoc]
attribute [go_sem] Lt.len Lt.all Lt.drop0 Lt.lay_0 Lt.layw Lt.g0 Lt.s0 Lt.g1 Lt.s1 Lt.g2 Lt.s2 Lt.g3 Lt.g4 Lt.s3 Lt.s4 Lt.sub_inst Lt.put_inst Lt.g5 Lt.g6 Lt.s5 Lt.s6 Lt.sub_bal Lt.put_bal Lt.g7 Lt.g8 Lt.g9 Lt.g10 Lt.g11 Lt.g12 Lt.g13 Lt.sub_cmd Lt.put_cmd Lt.g14 Lt.sub_att Lt.put_att Lt.g22 Lt.sub_cel Lt.put_cel Lt.sub_deps Lt.put_deps Lt.gd_deps Lt.sd_deps Lt.g50 Lt.s50 Lt.one Lt.eq
structure Noted where
  cmd:Cmd
  seq:Int
  deriving DecidableEq
def Noted.cs (a:Noted):List Value:=a.cmd.cs ++ ([.int .i64 a.seq])
abbrev Noted.v (a:Noted):Value:=.agg a.cs.toArray
theorem Noted.len (a:Noted):a.cs.length = 8:=rfl
theorem Noted.all (a:Noted):a.cs.take 8 = a.cs:=rfl
theorem Noted.drop0 (a:Noted):(a.cs.drop 0).take 8 = a.cs:=rfl
theorem Noted.lay_0 (a:Noted):lay a.cs [] [] = some a.cs:=rfl
theorem Noted.layw (a b:Noted):lay a.cs [(0,8)] [.agg b.cs.toArray] = some b.cs:=rfl
theorem Noted.g0 (a:Noted):a.cs[0]? = some (.int .i64 a.cmd.kind):=rfl
theorem Noted.g1 (a:Noted):a.cs[1]? = some (.int .i64 a.cmd.client):=rfl
theorem Noted.g2 (a:Noted):a.cs[2]? = some (.int .i64 a.cmd.seq):=rfl
theorem Noted.g3 (a:Noted):a.cs[3]? = some (.string a.cmd.key):=rfl
theorem Noted.g4 (a:Noted):a.cs[4]? = some (.string a.cmd.fin):=rfl
theorem Noted.g5 (a:Noted):a.cs[5]? = some (.string a.cmd.old):=rfl
theorem Noted.g6 (a:Noted):a.cs[6]? = some (.string a.cmd.val):=rfl
theorem Noted.sub_cmd (a:Noted):(a.cs.drop 0).take 7 = a.cmd.cs:=rfl
theorem Noted.tk_cmd (a:Noted):a.cs.take 7 = a.cmd.cs:=rfl
theorem Noted.put_cmd (a:Noted) (x:Cmd):x.cs ++ a.cs.drop 7 = ({ a with cmd:=x }:Noted).cs:=rfl
theorem Noted.g7 (a:Noted):a.cs[7]? = some (.int .i64 a.seq):=rfl
theorem Noted.s7 (a:Noted) (x:Int):a.cs.set 7 (.int .i64 x) = ({ a with seq:=x }:Noted).cs:=rfl
abbrev Noted.zero:Noted:=⟨Cmd.zero,0⟩
theorem Noted.one (a:Noted):a.cs.all Value.oneCell' = true:=rfl
theorem Noted_fa:Value.agg (List.toArray [.int .i64 0,.int .i64 0,.int .i64 0,.string noB,.string noB,.string noB,.string noB,.int .i64 0]) = .agg (Noted.zero.cs).toArray:=rfl
theorem Noted_fl (ps:List (Nat × Nat)) (vs:List Value):lay [.int .i64 0,.int .i64 0,.int .i64 0,.string noB,.string noB,.string noB,.string noB,.int .i64 0] ps vs = lay (Noted.zero.cs) ps vs:=rfl
theorem Noted_fc (t:TypeId) (fr:Nat × Nat):Obj.cells (List.toArray [.int .i64 0,.int .i64 0,.int .i64 0,.string noB,.string noB,.string noB,.string noB,.int .i64 0]) t fr = .cells (Noted.zero.cs).toArray t fr:=rfl
attribute [go_sem ↓] Noted_fa Noted_fl Noted_fc
theorem Noted.eq (c d:Noted):leafEq [.i .i64,.i .i64,.i .i64,.s,.s,.s,.s,.i .i64] c.cs d.cs = some (decide (c = d)):=by
  refine (show leafEq _ _ _ = _ from (leaf_two (Cmd.eq c.cmd d.cmd) (le_i c.seq d.seq))).trans ?_
  congr 1; rw [Bool.eq_iff_iff]; cases c; cases d; simp [and_assoc]
attribute [go_sem] Noted.len Noted.all Noted.drop0 Noted.lay_0 Noted.layw Noted.g0 Noted.g1 Noted.g2 Noted.g3 Noted.g4 Noted.g5 Noted.g6 Noted.sub_cmd Noted.tk_cmd Noted.put_cmd Noted.g7 Noted.s7 Noted.one Noted.eq
structure Sd where
  rep:Int
  cel:Cel
  deriving DecidableEq
def Sd.cs (a:Sd):List Value:=[.int .i64 a.rep] ++ (a.cel.cs)
abbrev Sd.v (a:Sd):Value:=.agg a.cs.toArray
theorem Sd.len (a:Sd):a.cs.length = 22:=rfl
theorem Sd.all (a:Sd):a.cs.take 22 = a.cs:=rfl
theorem Sd.drop0 (a:Sd):(a.cs.drop 0).take 22 = a.cs:=rfl
theorem Sd.lay_0 (a:Sd):lay a.cs [] [] = some a.cs:=rfl
theorem Sd.layw (a b:Sd):lay a.cs [(0,22)] [.agg b.cs.toArray] = some b.cs:=rfl
theorem Sd.g0 (a:Sd):a.cs[0]? = some (.int .i64 a.rep):=rfl
theorem Sd.s0 (a:Sd) (x:Int):a.cs.set 0 (.int .i64 x) = ({ a with rep:=x }:Sd).cs:=rfl
theorem Sd.g1 (a:Sd):a.cs[1]? = some (.int .i64 a.cel.st):=rfl
theorem Sd.sub_cel (a:Sd):(a.cs.drop 1).take 21 = a.cel.cs:=rfl
theorem Sd.put_cel (a:Sd) (x:Cel):a.cs.take 1 ++ (x.cs ++ a.cs.drop 22) = ({ a with cel:=x }:Sd).cs:=rfl
abbrev Sd.zero:Sd:=⟨0,Cel.zero⟩
theorem Sd.one (a:Sd):a.cs.all Value.oneCell' = true:=rfl
theorem Sd_fa:Value.agg (List.toArray [.int .i64 0,.int .i64 0,.int .i64 0,.int .i64 0,.int .i64 0,.int .i64 0,.int .i64 0,.int .i64 0,.int .i64 0,.string noB,.string noB,.string noB,.string noB,.int .i64 0,.int .i64 0,.int .i64 0,.int .i64 0,.int .i64 0,.int .i64 0,.int .i64 0,.int .i64 0,.bool false]) = .agg (Sd.zero.cs).toArray:=rfl
theorem Sd_fl (ps:List (Nat × Nat)) (vs:List Value):lay [.int .i64 0,.int .i64 0,.int .i64 0,.int .i64 0,.int .i64 0,.int .i64 0,.int .i64 0,.int .i64 0,.int .i64 0,.string noB,.string noB,.string noB,.string noB,.int .i64 0,.int .i64 0,.int .i64 0,.int .i64 0,.int .i64 0,.int .i64 0,.int .i64 0,.int .i64 0,.bool false] ps vs = lay (Sd.zero.cs) ps vs:=rfl
theorem Sd_fc (t:TypeId) (fr:Nat × Nat):Obj.cells (List.toArray [.int .i64 0,.int .i64 0,.int .i64 0,.int .i64 0,.int .i64 0,.int .i64 0,.int .i64 0,.int .i64 0,.int .i64 0,.string noB,.string noB,.string noB,.string noB,.int .i64 0,.int .i64 0,.int .i64 0,.int .i64 0,.int .i64 0,.int .i64 0,.int .i64 0,.int .i64 0,.bool false]) t fr = .cells (Sd.zero.cs).toArray t fr:=rfl
attribute [go_sem ↓] Sd_fa Sd_fl Sd_fc
theorem Sd.eq (c d:Sd):leafEq [.i .i64,.i .i64,.i .i64,.i .i64,.i .i64,.i .i64,.i .i64,.i .i64,.i .i64,.s,.s,.s,.s,.i .i64,.i .i64,.i .i64,.i .i64,.i .i64,.i .i64,.i .i64,.i .i64,.b] c.cs d.cs = some (decide (c = d)):=by
  refine (show leafEq _ _ _ = _ from (leaf_two (le_i c.rep d.rep) (Cel.eq c.cel d.cel))).trans ?_
  congr 1; rw [Bool.eq_iff_iff]; cases c; cases d; simp [and_assoc]
attribute [go_sem] Sd.len Sd.all Sd.drop0 Sd.lay_0 Sd.layw Sd.g0 Sd.s0 Sd.g1 Sd.sub_cel Sd.put_cel Sd.one Sd.eq
structure Spn where
  lo:ByteArray
  hi:ByteArray
  deriving DecidableEq
def Spn.cs (a:Spn):List Value:=[.string a.lo] ++ ([.string a.hi])
abbrev Spn.v (a:Spn):Value:=.agg a.cs.toArray
theorem Spn.len (a:Spn):a.cs.length = 2:=rfl
theorem Spn.all (a:Spn):a.cs.take 2 = a.cs:=rfl
theorem Spn.drop0 (a:Spn):(a.cs.drop 0).take 2 = a.cs:=rfl
theorem Spn.lay_0 (a:Spn):lay a.cs [] [] = some a.cs:=rfl
theorem Spn.layw (a b:Spn):lay a.cs [(0,2)] [.agg b.cs.toArray] = some b.cs:=rfl
theorem Spn.g0 (a:Spn):a.cs[0]? = some (.string a.lo):=rfl
theorem Spn.s0 (a:Spn) (x:ByteArray):a.cs.set 0 (.string x) = ({ a with lo:=x }:Spn).cs:=rfl
theorem Spn.g1 (a:Spn):a.cs[1]? = some (.string a.hi):=rfl
theorem Spn.s1 (a:Spn) (x:ByteArray):a.cs.set 1 (.string x) = ({ a with hi:=x }:Spn).cs:=rfl
abbrev Spn.zero:Spn:=⟨noB,noB⟩
theorem Spn.one (a:Spn):a.cs.all Value.oneCell' = true:=rfl
theorem Spn_fa:Value.agg (List.toArray [.string noB,.string noB]) = .agg (Spn.zero.cs).toArray:=rfl
theorem Spn_fl (ps:List (Nat × Nat)) (vs:List Value):lay [.string noB,.string noB] ps vs = lay (Spn.zero.cs) ps vs:=rfl
theorem Spn_fc (t:TypeId) (fr:Nat × Nat):Obj.cells (List.toArray [.string noB,.string noB]) t fr = .cells (Spn.zero.cs).toArray t fr:=rfl
attribute [go_sem ↓] Spn_fa Spn_fl Spn_fc
theorem Spn.eq (c d:Spn):leafEq [.s,.s] c.cs d.cs = some (decide (c = d)):=by
  refine (show leafEq _ _ _ = _ from (leaf_two (le_s c.lo d.lo) (le_s c.hi d.hi))).trans ?_
  congr 1; rw [Bool.eq_iff_iff]; cases c; cases d; simp [and_assoc]
attribute [go_sem] Spn.len Spn.all Spn.drop0 Spn.lay_0 Spn.layw Spn.g0 Spn.s0 Spn.g1 Spn.s1 Spn.one Spn.eq
structure Wsh where
  id:Int × Int
  ticks:Int
  told:Int × Int
  deriving DecidableEq
def Wsh.cs (a:Wsh):List Value:=pc a.id ++ ([.int .i64 a.ticks] ++ (pc a.told))
abbrev Wsh.v (a:Wsh):Value:=.agg a.cs.toArray
theorem Wsh.len (a:Wsh):a.cs.length = 5:=rfl
theorem Wsh.all (a:Wsh):a.cs.take 5 = a.cs:=rfl
theorem Wsh.drop0 (a:Wsh):(a.cs.drop 0).take 5 = a.cs:=rfl
theorem Wsh.lay_0 (a:Wsh):lay a.cs [] [] = some a.cs:=rfl
theorem Wsh.layw (a b:Wsh):lay a.cs [(0,5)] [.agg b.cs.toArray] = some b.cs:=rfl
theorem Wsh.g0 (a:Wsh):a.cs[0]? = some (.int .i64 a.id.1):=rfl
theorem Wsh.g1 (a:Wsh):a.cs[1]? = some (.int .i64 a.id.2):=rfl
theorem Wsh.s0 (a:Wsh) (x:Int):a.cs.set 0 (.int .i64 x) = ({ a with id:=(x,a.id.2) }:Wsh).cs:=rfl
theorem Wsh.s1 (a:Wsh) (x:Int):a.cs.set 1 (.int .i64 x) = ({ a with id:=(a.id.1,x) }:Wsh).cs:=rfl
theorem Wsh.sub_id (a:Wsh):(a.cs.drop 0).take 2 = pc a.id:=rfl
theorem Wsh.tk_id (a:Wsh):a.cs.take 2 = pc a.id:=rfl
theorem Wsh.put_id (a:Wsh) (x:Int × Int):pc x ++ a.cs.drop 2 = ({ a with id:=x }:Wsh).cs:=rfl
theorem Wsh.g2 (a:Wsh):a.cs[2]? = some (.int .i64 a.ticks):=rfl
theorem Wsh.s2 (a:Wsh) (x:Int):a.cs.set 2 (.int .i64 x) = ({ a with ticks:=x }:Wsh).cs:=rfl
theorem Wsh.g3 (a:Wsh):a.cs[3]? = some (.int .i64 a.told.1):=rfl
theorem Wsh.g4 (a:Wsh):a.cs[4]? = some (.int .i64 a.told.2):=rfl
theorem Wsh.s3 (a:Wsh) (x:Int):a.cs.set 3 (.int .i64 x) = ({ a with told:=(x,a.told.2) }:Wsh).cs:=rfl
theorem Wsh.s4 (a:Wsh) (x:Int):a.cs.set 4 (.int .i64 x) = ({ a with told:=(a.told.1,x) }:Wsh).cs:=rfl
theorem Wsh.sub_told (a:Wsh):(a.cs.drop 3).take 2 = pc a.told:=rfl
theorem Wsh.put_told (a:Wsh) (x:Int × Int):a.cs.take 3 ++ (pc x ++ a.cs.drop 5) = ({ a with told:=x }:Wsh).cs:=rfl
abbrev Wsh.zero:Wsh:=⟨(0,0),0,(0,0)⟩
theorem Wsh.one (a:Wsh):a.cs.all Value.oneCell' = true:=rfl
theorem Wsh_fa:Value.agg (List.toArray [.int .i64 0,.int .i64 0,.int .i64 0,.int .i64 0,.int .i64 0]) = .agg (Wsh.zero.cs).toArray:=rfl
theorem Wsh_fl (ps:List (Nat × Nat)) (vs:List Value):lay [.int .i64 0,.int .i64 0,.int .i64 0,.int .i64 0,.int .i64 0] ps vs = lay (Wsh.zero.cs) ps vs:=rfl
theorem Wsh_fc (t:TypeId) (fr:Nat × Nat):Obj.cells (List.toArray [.int .i64 0,.int .i64 0,.int .i64 0,.int .i64 0,.int .i64 0]) t fr = .cells (Wsh.zero.cs).toArray t fr:=rfl
attribute [go_sem ↓] Wsh_fa Wsh_fl Wsh_fc
theorem Wsh.eq (c d:Wsh):leafEq [.i .i64,.i .i64,.i .i64,.i .i64,.i .i64] c.cs d.cs = some (decide (c = d)):=by
  refine (show leafEq _ _ _ = _ from (leaf_two (pc_eq c.id d.id) (leaf_two (le_i c.ticks d.ticks) (pc_eq c.told d.told)))).trans ?_
  congr 1; rw [Bool.eq_iff_iff]; cases c; cases d; simp [and_assoc]
attribute [go_sem] Wsh.len Wsh.all Wsh.drop0 Wsh.lay_0 Wsh.layw Wsh.g0 Wsh.g1 Wsh.s0 Wsh.s1 Wsh.sub_id Wsh.tk_id Wsh.put_id Wsh.g2 Wsh.s2 Wsh.g3 Wsh.g4 Wsh.s3 Wsh.s4 Wsh.sub_told Wsh.put_told Wsh.one Wsh.eq
structure Prt where
  inst:Bool
  bal:Bool
  cmd:Bool
  att:Bool
  cel:Bool
  deps:Bool
  data:Bool
  deriving DecidableEq
def Prt.cs (a:Prt):List Value:=[.bool a.inst] ++ ([.bool a.bal] ++ ([.bool a.cmd] ++ ([.bool a.att] ++ ([.bool a.cel] ++ ([.bool a.deps] ++ ([.bool a.data]))))))
abbrev Prt.v (a:Prt):Value:=.agg a.cs.toArray
theorem Prt.len (a:Prt):a.cs.length = 7:=rfl
theorem Prt.all (a:Prt):a.cs.take 7 = a.cs:=rfl
theorem Prt.drop0 (a:Prt):(a.cs.drop 0).take 7 = a.cs:=rfl
theorem Prt.lay_0 (a:Prt):lay a.cs [] [] = some a.cs:=rfl
theorem Prt.layw (a b:Prt):lay a.cs [(0,7)] [.agg b.cs.toArray] = some b.cs:=rfl
theorem Prt.g0 (a:Prt):a.cs[0]? = some (.bool a.inst):=rfl
theorem Prt.s0 (a:Prt) (x:Bool):a.cs.set 0 (.bool x) = ({ a with inst:=x }:Prt).cs:=rfl
theorem Prt.g1 (a:Prt):a.cs[1]? = some (.bool a.bal):=rfl
theorem Prt.s1 (a:Prt) (x:Bool):a.cs.set 1 (.bool x) = ({ a with bal:=x }:Prt).cs:=rfl
theorem Prt.g2 (a:Prt):a.cs[2]? = some (.bool a.cmd):=rfl
theorem Prt.s2 (a:Prt) (x:Bool):a.cs.set 2 (.bool x) = ({ a with cmd:=x }:Prt).cs:=rfl
theorem Prt.g3 (a:Prt):a.cs[3]? = some (.bool a.att):=rfl
theorem Prt.s3 (a:Prt) (x:Bool):a.cs.set 3 (.bool x) = ({ a with att:=x }:Prt).cs:=rfl
theorem Prt.g4 (a:Prt):a.cs[4]? = some (.bool a.cel):=rfl
theorem Prt.s4 (a:Prt) (x:Bool):a.cs.set 4 (.bool x) = ({ a with cel:=x }:Prt).cs:=rfl
theorem Prt.g5 (a:Prt):a.cs[5]? = some (.bool a.deps):=rfl
theorem Prt.s5 (a:Prt) (x:Bool):a.cs.set 5 (.bool x) = ({ a with deps:=x }:Prt).cs:=rfl
theorem Prt.g6 (a:Prt):a.cs[6]? = some (.bool a.data):=rfl
theorem Prt.s6 (a:Prt) (x:Bool):a.cs.set 6 (.bool x) = ({ a with data:=x }:Prt).cs:=rfl
abbrev Prt.zero:Prt:=⟨false,false,false,false,false,false,false⟩
theorem Prt.one (a:Prt):a.cs.all Value.oneCell' = true:=rfl
theorem Prt_fa:Value.agg (List.toArray [.bool false,.bool false,.bool false,.bool false,.bool false,.bool false,.bool false]) = .agg (Prt.zero.cs).toArray:=rfl
theorem Prt_fl (ps:List (Nat × Nat)) (vs:List Value):lay [.bool false,.bool false,.bool false,.bool false,.bool false,.bool false,.bool false] ps vs = lay (Prt.zero.cs) ps vs:=rfl
theorem Prt_fc (t:TypeId) (fr:Nat × Nat):Obj.cells (List.toArray [.bool false,.bool false,.bool false,.bool false,.bool false,.bool false,.bool false]) t fr = .cells (Prt.zero.cs).toArray t fr:=rfl
attribute [go_sem ↓] Prt_fa Prt_fl Prt_fc
theorem Prt.eq (c d:Prt):leafEq [.b,.b,.b,.b,.b,.b,.b] c.cs d.cs = some (decide (c = d)):=by
  refine (show leafEq _ _ _ = _ from (leaf_two (le_b c.inst d.inst) (leaf_two (le_b c.bal d.bal) (leaf_two (le_b c.cmd d.cmd) (leaf_two (le_b c.att d.att) (leaf_two (le_b c.cel d.cel) (leaf_two (le_b c.deps d.deps) (le_b c.data d.data)))))))).trans ?_
  congr 1; rw [Bool.eq_iff_iff]; cases c; cases d; simp [and_assoc]
attribute [go_sem] Prt.len Prt.all Prt.drop0 Prt.lay_0 Prt.layw Prt.g0 Prt.s0 Prt.g1 Prt.s1 Prt.g2 Prt.s2 Prt.g3 Prt.s3 Prt.g4 Prt.s4 Prt.g5 Prt.s5 Prt.g6 Prt.s6 Prt.one Prt.eq
end Go.Fw
namespace Go.Fw
open Go.Proofs
variable {m m0 M:Mem} {S:List Nat} {L:List As}
theorem Spn.lay2 (c:Spn) (a b:ByteArray):lay c.cs [(0,1),(1,1)] [.string a,.string b] = some (Spn.mk a b).cs:=rfl
attribute [go_sem] Spn.lay2
/-! spans, clash -/
abbrev underP (k hi:ByteArray):Prop:=hi = noB ∨ Op.bytesLess k.data.toList hi.data.toList = true
def Spn.empty (s:Spn):Prop:=¬ underP s.lo s.hi
instance (s:Spn):Decidable s.empty:=by unfold Spn.empty; exact inferInstance
def meetsP (a b:Spn):Prop:=¬ a.empty ∧ ¬ b.empty ∧ underP a.lo b.hi ∧ underP b.lo a.hi
instance (a b:Spn):Decidable (meetsP a b):=by unfold meetsP; exact inferInstance
def Cmd.has (c:Cmd):Bool:=decide (c.kind = 1 ∨ c.kind = 2 ∨ c.kind = 3 ∨ c.kind = 4 ∨ c.kind = 5)
def Cmd.span (c:Cmd):Spn:=if c.kind = 1 ∨ c.kind = 2 ∨ c.kind = 3 ∨ c.kind = 4 then ⟨c.key,c.key ++ ⟨#[0]⟩⟩ else if c.kind = 5 then ⟨c.key,c.fin⟩ else Spn.zero
abbrev Cmd.writes (c:Cmd):Prop:=c.kind = 2 ∨ c.kind = 3 ∨ c.kind = 4
def clashP (a b:Cmd):Prop:=a.has = true ∧ b.has = true ∧ (a.client = b.client ∨ (a.writes ∨ b.writes) ∧ meetsP a.span b.span)
instance (a b:Cmd):Decidable (clashP a b):=by unfold clashP; exact inferInstance
theorem rd_strl {m:Mem} (a b:ByteArray):rd (.str .lss) [.string a,.string b] m = some (.bool (Op.bytesLess a.data.toList b.data.toList)):=rfl
theorem rd_stra {m:Mem} (a:ByteArray) (h:a.size ≤ 1000):rd (.str .add) [.string a,.string ⟨#[0]⟩] m = some (.string (a ++ ⟨#[0]⟩)):=by
  show (if a.size + 1 ≤ 9223372036854775807 then _ else _) = _
  rw [if_pos (by omega)]
attribute [go_sem] rd_strl rd_stra
theorem under_s (k hi:ByteArray) (m:Mem):MC Tryz.prog n_span_under [.string k,.string hi] m fun v m' => v = .bool (decide (underP k hi)) ∧ Fr m m' []:=by
  refine Q107go (by simp [Tryz.f33]) ?_
  have H:=Hp.refl m []
  simp (disch:=omega) only [go_sem,undef]
  repeat' (first
    | (refine new_H H fun _ _ _ _ H => ?_; simp (disch:=omega) only [go_sem,undef,H.hs, *])
    | (refine gQ_split (fun hq => ?_) (fun hq => ?_) <;> (try simp only [Bool.not_true,Bool.not_false] at hq) <;> simp (disch:=omega) only [go_sem,undef,H.hs, *])
    | (refine condB_split (fun hq => ?_) (fun hq => ?_) <;> simp (disch:=omega) only [go_sem,undef,H.hs, *])
    | (refine wr0 H fun _ _ H => ?_; simp (disch:=omega) only [go_sem,undef,H.hs, *])
    | (refine wr1 H fun _ _ H => ?_; simp (disch:=omega) only [go_sem,undef,H.hs, *])
    | (refine wr2 H fun _ _ H => ?_; simp (disch:=omega) only [go_sem,undef,H.hs, *])
    | (refine wr3 H fun _ _ H => ?_; simp (disch:=omega) only [go_sem,undef,H.hs, *])
    | (refine stw0 H rfl rfl fun _ _ H => ?_; simp (disch:=omega) only [go_sem,undef,H.hs, *])
    | (refine stw1 H rfl rfl fun _ _ H => ?_; simp (disch:=omega) only [go_sem,undef,H.hs, *]))
  all_goals (try simp only [decide_eq_true_eq,decide_eq_false_iff_not] at *)
  all_goals exact ⟨by first | rfl | (simp only [Value.bool.injEq,decide_eq_true_eq,eq_comm (a:=true),eq_comm (a:=false),decide_eq_false_iff_not,decide_eq_decide]; grind []),H.fr⟩
theorem empty_s (s:Spn) (m:Mem):MC Tryz.prog n_span_Empty [s.v] m fun v m' => v = .bool (decide s.empty) ∧ Fr m m' []:=by
  refine Q106go (by simp [Tryz.f33]) ?_
  have H:=Hp.refl m []
  simp (disch:=omega) only [go_sem,undef]
  repeat' (first
    | (refine new_H H fun _ _ _ _ H => ?_; simp (disch:=omega) only [go_sem,undef,H.hs, *])
    | (refine call_H H (under_s _ _ _) fun _ _ H => ?_; simp (disch:=omega) only [go_sem,undef,H.hs, *])
    | (refine gQ_split (fun hq => ?_) (fun hq => ?_) <;> (try simp only [Bool.not_true,Bool.not_false] at hq) <;> simp (disch:=omega) only [go_sem,undef,H.hs, *])
    | (refine condB_split (fun hq => ?_) (fun hq => ?_) <;> simp (disch:=omega) only [go_sem,undef,H.hs, *])
    | (refine wr0 H fun _ _ H => ?_; simp (disch:=omega) only [go_sem,undef,H.hs, *])
    | (refine wr1 H fun _ _ H => ?_; simp (disch:=omega) only [go_sem,undef,H.hs, *])
    | (refine wr2 H fun _ _ H => ?_; simp (disch:=omega) only [go_sem,undef,H.hs, *])
    | (refine wr3 H fun _ _ H => ?_; simp (disch:=omega) only [go_sem,undef,H.hs, *])
    | (refine stw0 H rfl rfl fun _ _ H => ?_; simp (disch:=omega) only [go_sem,undef,H.hs, *])
    | (refine stw1 H rfl rfl fun _ _ H => ?_; simp (disch:=omega) only [go_sem,undef,H.hs, *]))
  all_goals (try simp only [decide_eq_true_eq,decide_eq_false_iff_not] at *)
  all_goals exact ⟨by first | rfl | (simp only [Value.bool.injEq,decide_eq_true_eq,eq_comm (a:=true),eq_comm (a:=false),decide_eq_false_iff_not,decide_eq_decide]; grind [Spn.empty]),H.fr⟩
theorem meets_s (a b:Spn) (m:Mem):MC Tryz.prog n_span_Meets [a.v,b.v] m fun v m' => v = .bool (decide (meetsP a b)) ∧ Fr m m' []:=by
  refine Q81go (by simp [Tryz.f33]) ?_
  have H:=Hp.refl m []
  simp (disch:=omega) only [go_sem,undef]
  repeat' (first
    | (refine new_H H fun _ _ _ _ H => ?_; simp (disch:=omega) only [go_sem,undef,H.hs, *])
    | (refine call_H H (empty_s _ _) fun _ _ H => ?_; simp (disch:=omega) only [go_sem,undef,H.hs, *])
    | (refine call_H H (under_s _ _ _) fun _ _ H => ?_; simp (disch:=omega) only [go_sem,undef,H.hs, *])
    | (refine gQ_split (fun hq => ?_) (fun hq => ?_) <;> (try simp only [Bool.not_true,Bool.not_false] at hq) <;> simp (disch:=omega) only [go_sem,undef,H.hs, *])
    | (refine condB_split (fun hq => ?_) (fun hq => ?_) <;> simp (disch:=omega) only [go_sem,undef,H.hs, *])
    | (refine wr0 H fun _ _ H => ?_; simp (disch:=omega) only [go_sem,undef,H.hs, *])
    | (refine wr1 H fun _ _ H => ?_; simp (disch:=omega) only [go_sem,undef,H.hs, *])
    | (refine wr2 H fun _ _ H => ?_; simp (disch:=omega) only [go_sem,undef,H.hs, *])
    | (refine wr3 H fun _ _ H => ?_; simp (disch:=omega) only [go_sem,undef,H.hs, *])
    | (refine stw0 H rfl rfl fun _ _ H => ?_; simp (disch:=omega) only [go_sem,undef,H.hs, *])
    | (refine stw1 H rfl rfl fun _ _ H => ?_; simp (disch:=omega) only [go_sem,undef,H.hs, *]))
  all_goals (try simp only [decide_eq_true_eq,decide_eq_false_iff_not] at *)
  all_goals exact ⟨by first | rfl | (simp only [Value.bool.injEq,decide_eq_true_eq,eq_comm (a:=true),eq_comm (a:=false),decide_eq_false_iff_not,decide_eq_decide]; grind [meetsP]),H.fr⟩
theorem writes_s (c:Cmd) (m:Mem):MC Tryz.prog n_cmd_Writes [c.v] m fun v m' => v = .bool (decide c.writes) ∧ Fr m m' []:=by
  refine Q80go (by simp [Tryz.f33]) ?_
  have H:=Hp.refl m []
  simp (disch:=omega) only [go_sem,undef]
  repeat' (first
    | (refine new_H H fun _ _ _ _ H => ?_; simp (disch:=omega) only [go_sem,undef,H.hs, *])
    | (refine gQ_split (fun hq => ?_) (fun hq => ?_) <;> (try simp only [Bool.not_true,Bool.not_false] at hq) <;> simp (disch:=omega) only [go_sem,undef,H.hs, *])
    | (refine condB_split (fun hq => ?_) (fun hq => ?_) <;> simp (disch:=omega) only [go_sem,undef,H.hs, *])
    | (refine wr0 H fun _ _ H => ?_; simp (disch:=omega) only [go_sem,undef,H.hs, *])
    | (refine wr1 H fun _ _ H => ?_; simp (disch:=omega) only [go_sem,undef,H.hs, *])
    | (refine wr2 H fun _ _ H => ?_; simp (disch:=omega) only [go_sem,undef,H.hs, *])
    | (refine wr3 H fun _ _ H => ?_; simp (disch:=omega) only [go_sem,undef,H.hs, *])
    | (refine stw0 H rfl rfl fun _ _ H => ?_; simp (disch:=omega) only [go_sem,undef,H.hs, *])
    | (refine stw1 H rfl rfl fun _ _ H => ?_; simp (disch:=omega) only [go_sem,undef,H.hs, *]))
  all_goals (try simp only [decide_eq_true_eq,decide_eq_false_iff_not] at *)
  all_goals exact ⟨by first | rfl | (simp only [Value.bool.injEq,decide_eq_true_eq,eq_comm (a:=true),eq_comm (a:=false),decide_eq_false_iff_not,decide_eq_decide]; grind []),H.fr⟩
theorem of_s (k:ByteArray) (hk:k.size ≤ 1000) (m:Mem):MC Tryz.prog n_span_Of [.string k] m fun v m' => v = (Spn.mk k (k ++ ⟨#[0]⟩)).v ∧ Fr m m' []:=by
  refine Q105go (by simp [Tryz.f33]) ?_
  have H:=Hp.refl m []
  simp (disch:=omega) only [go_sem,undef]
  repeat' (first
    | (refine new_H H fun _ _ _ _ H => ?_; simp (disch:=omega) only [go_sem,undef,H.hs, *])
    | (refine gQ_split (fun hq => ?_) (fun hq => ?_) <;> (try simp only [Bool.not_true,Bool.not_false] at hq) <;> simp (disch:=omega) only [go_sem,undef,H.hs, *])
    | (refine condB_split (fun hq => ?_) (fun hq => ?_) <;> simp (disch:=omega) only [go_sem,undef,H.hs, *])
    | (refine wr0 H fun _ _ H => ?_; simp (disch:=omega) only [go_sem,undef,H.hs, *])
    | (refine wr1 H fun _ _ H => ?_; simp (disch:=omega) only [go_sem,undef,H.hs, *])
    | (refine wr2 H fun _ _ H => ?_; simp (disch:=omega) only [go_sem,undef,H.hs, *])
    | (refine wr3 H fun _ _ H => ?_; simp (disch:=omega) only [go_sem,undef,H.hs, *])
    | (refine stw0 H rfl rfl fun _ _ H => ?_; simp (disch:=omega) only [go_sem,undef,H.hs, *])
    | (refine stw1 H rfl rfl fun _ _ H => ?_; simp (disch:=omega) only [go_sem,undef,H.hs, *]))
  all_goals exact ⟨rfl,H.fr⟩
theorem keys_s (c:Cmd) (hk:c.key.size ≤ 1000) (m:Mem):MC Tryz.prog n_cmd_Keys [c.v] m fun v m' => v = .tuple #[c.span.v,.bool c.has] ∧ Fr m m' []:=by
  refine Q79go (by simp [Tryz.f33]) ?_
  have H:=Hp.refl m []
  simp (disch:=omega) only [go_sem,undef]
  repeat' (first
    | (refine new_H H fun _ _ _ _ H => ?_; simp (disch:=omega) only [go_sem,undef,H.hs, *])
    | (refine call_H H (of_s _ hk _) fun _ _ H => ?_; simp (disch:=omega) only [go_sem,undef,H.hs, *])
    | (refine gQ_split (fun hq => ?_) (fun hq => ?_) <;> (try simp only [Bool.not_true,Bool.not_false] at hq) <;> simp (disch:=omega) only [go_sem,undef,H.hs, *])
    | (refine condB_split (fun hq => ?_) (fun hq => ?_) <;> simp (disch:=omega) only [go_sem,undef,H.hs, *])
    | (refine wr0 H fun _ _ H => ?_; simp (disch:=omega) only [go_sem,undef,H.hs, *])
    | (refine wr1 H fun _ _ H => ?_; simp (disch:=omega) only [go_sem,undef,H.hs, *])
    | (refine wr2 H fun _ _ H => ?_; simp (disch:=omega) only [go_sem,undef,H.hs, *])
    | (refine wr3 H fun _ _ H => ?_; simp (disch:=omega) only [go_sem,undef,H.hs, *])
    | (refine stw0 H rfl rfl fun _ _ H => ?_; simp (disch:=omega) only [go_sem,undef,H.hs, *])
    | (refine stw1 H rfl rfl fun _ _ H => ?_; simp (disch:=omega) only [go_sem,undef,H.hs, *]))
  all_goals (try simp only [decide_eq_true_eq,decide_eq_false_iff_not] at *)
  all_goals exact ⟨by simp [Cmd.span,Cmd.has, *],H.fr⟩
theorem clash_s (a b:Cmd) (hk:a.key.size ≤ 1000) (hk2:b.key.size ≤ 1000) (m:Mem):MC Tryz.prog n_cmd_Clash [a.v,b.v] m fun v m' => v = .bool (decide (clashP a b)) ∧ Fr m m' []:=by
  refine Q49go (by simp [Tryz.f33]) ?_
  have H:=Hq.refl m []
  simp (disch:=omega) only [go_sem,undef]
  repeat' (first
    | ((with_reducible refine newQ H fun _ _ f H2 => ?_); clear f; clear H; have H:=H2; clear H2; simp (disch:=omega) only [go_sem,undef,H.cs, *])
    | ((with_reducible refine wrQ0 H fun _ f H2 => ?_); clear f; clear H; have H:=H2; clear H2; simp (disch:=omega) only [go_sem,undef,H.cs, *])
    | ((with_reducible refine wrQ1 H fun _ f H2 => ?_); clear f; clear H; have H:=H2; clear H2; simp (disch:=omega) only [go_sem,undef,H.cs, *])
    | ((with_reducible refine wrQ2 H fun _ f H2 => ?_); clear f; clear H; have H:=H2; clear H2; simp (disch:=omega) only [go_sem,undef,H.cs, *])
    | ((with_reducible refine wrQ3 H fun _ f H2 => ?_); clear f; clear H; have H:=H2; clear H2; simp (disch:=omega) only [go_sem,undef,H.cs, *])
    | ((with_reducible refine wrQ4 H fun _ f H2 => ?_); clear f; clear H; have H:=H2; clear H2; simp (disch:=omega) only [go_sem,undef,H.cs, *])
    | ((with_reducible refine wrQ5 H fun _ f H2 => ?_); clear f; clear H; have H:=H2; clear H2; simp (disch:=omega) only [go_sem,undef,H.cs, *])
    | ((with_reducible refine stwQ0 H ?hl ?h1 fun _ f H2 => ?_); (case hl => rfl); (case h1 => rfl); clear f; clear H; have H:=H2; clear H2; simp (disch:=omega) only [go_sem,undef,H.cs, *])
    | ((with_reducible refine stwQ1 H ?hl ?h1 fun _ f H2 => ?_); (case hl => rfl); (case h1 => rfl); clear f; clear H; have H:=H2; clear H2; simp (disch:=omega) only [go_sem,undef,H.cs, *])
    | ((with_reducible refine stwQ2 H ?hl ?h1 fun _ f H2 => ?_); (case hl => rfl); (case h1 => rfl); clear f; clear H; have H:=H2; clear H2; simp (disch:=omega) only [go_sem,undef,H.cs, *])
    | ((with_reducible refine stwQ3 H ?hl ?h1 fun _ f H2 => ?_); (case hl => rfl); (case h1 => rfl); clear f; clear H; have H:=H2; clear H2; simp (disch:=omega) only [go_sem,undef,H.cs, *])
    | ((with_reducible refine stwQ4 H ?hl ?h1 fun _ f H2 => ?_); (case hl => rfl); (case h1 => rfl); clear f; clear H; have H:=H2; clear H2; simp (disch:=omega) only [go_sem,undef,H.cs, *])
    | ((with_reducible refine stwQ5 H ?hl ?h1 fun _ f H2 => ?_); (case hl => rfl); (case h1 => rfl); clear f; clear H; have H:=H2; clear H2; simp (disch:=omega) only [go_sem,undef,H.cs, *])
    | ((with_reducible refine stQ0 H ?hl ?h1 fun _ f H2 => ?_); (case hl => exact Nat.le_of_ble_eq_true rfl); (case h1 => rfl); clear f; (simp only [go_sem] at H2); clear H; have H:=H2; clear H2; simp (disch:=omega) only [go_sem,undef,H.cs, *])
    | ((with_reducible refine stQ1 H ?hl ?h1 fun _ f H2 => ?_); (case hl => exact Nat.le_of_ble_eq_true rfl); (case h1 => rfl); clear f; (simp only [go_sem] at H2); clear H; have H:=H2; clear H2; simp (disch:=omega) only [go_sem,undef,H.cs, *])
    | ((with_reducible refine stQ2 H ?hl ?h1 fun _ f H2 => ?_); (case hl => exact Nat.le_of_ble_eq_true rfl); (case h1 => rfl); clear f; (simp only [go_sem] at H2); clear H; have H:=H2; clear H2; simp (disch:=omega) only [go_sem,undef,H.cs, *])
    | ((with_reducible refine stQ3 H ?hl ?h1 fun _ f H2 => ?_); (case hl => exact Nat.le_of_ble_eq_true rfl); (case h1 => rfl); clear f; (simp only [go_sem] at H2); clear H; have H:=H2; clear H2; simp (disch:=omega) only [go_sem,undef,H.cs, *])
    | ((with_reducible refine callQ H (keys_s _ hk _) fun _ f H2 => ?_); clear f; clear H; have H:=H2; clear H2; simp (disch:=omega) only [go_sem,undef,H.cs, *])
    | ((with_reducible refine callQ H (keys_s _ hk2 _) fun _ f H2 => ?_); clear f; clear H; have H:=H2; clear H2; simp (disch:=omega) only [go_sem,undef,H.cs, *])
    | ((with_reducible refine callQ H (writes_s _ _) fun _ f H2 => ?_); clear f; clear H; have H:=H2; clear H2; simp (disch:=omega) only [go_sem,undef,H.cs, *])
    | ((with_reducible refine callQ H (meets_s _ _ _) fun _ f H2 => ?_); clear f; clear H; have H:=H2; clear H2; simp (disch:=omega) only [go_sem,undef,H.cs, *])
    | ((with_reducible refine gQ_split (fun hq => ?_) (fun hq => ?_)) <;> (try simp only [Bool.not_true,Bool.not_false] at hq) <;> simp (disch:=omega) only [go_sem,undef,H.cs, *])
    | ((with_reducible refine condB_split (fun hq => ?_) (fun hq => ?_)) <;> simp (disch:=omega) only [go_sem,undef,H.cs, *]))
  all_goals (try simp only [decide_eq_true_eq,decide_eq_false_iff_not] at *)
  all_goals exact ⟨by first | rfl | (simp only [Value.bool.injEq,decide_eq_true_eq,eq_comm (a:=true),eq_comm (a:=false),decide_eq_false_iff_not,decide_eq_decide]; grind [clashP]),H.fr⟩
end Go.Fw
namespace Go.Fw
open Go.Proofs
variable {m m0 M:Mem} {S:List Nat} {L:List As}
theorem Lt.lay_a (c:Lt) (a b d:Int):lay c.cs [(0,1),(1,1),(2,1)] [.int .i64 a,.int .i64 b,.int .i64 d] = some ({ c with kind:=a,src:=b,dst:=d }:Lt).cs:=rfl
theorem Lt.lay_b (c:Lt) (k:Int) (p q:Int × Int) (a:Att):lay c.cs [(0,1),(3,2),(5,2),(14,8)] [.int .i64 k,.agg (pc p).toArray,.agg (pc q).toArray,.agg a.cs.toArray] = some ({ c with kind:=k,inst:=p,bal:=q,att:=a }:Lt).cs:=rfl
theorem Lt.lay_c (c:Lt) (k:Int) (p q:Int × Int) (a:Cel):lay c.cs [(0,1),(3,2),(5,2),(22,21)] [.int .i64 k,.agg (pc p).toArray,.agg (pc q).toArray,.agg a.cs.toArray] = some ({ c with kind:=k,inst:=p,bal:=q,cel:=a }:Lt).cs:=rfl
theorem Lt.lay_d (c:Lt) (k:Int) (p q:Int × Int):lay c.cs [(0,1),(3,2),(5,2)] [.int .i64 k,.agg (pc p).toArray,.agg (pc q).toArray] = some ({ c with kind:=k,inst:=p,bal:=q }:Lt).cs:=rfl
theorem Lt.lay_e (c:Lt) (k:Int) (p:Int × Int) (x:Cmd) (a:Att):lay c.cs [(0,1),(3,2),(7,7),(14,8)] [.int .i64 k,.agg (pc p).toArray,.agg x.cs.toArray,.agg a.cs.toArray] = some ({ c with kind:=k,inst:=p,cmd:=x,att:=a }:Lt).cs:=rfl
theorem Lt.lay_f (c:Lt) (p q:Int × Int):lay c.cs [(3,2),(5,2)] [.agg (pc p).toArray,.agg (pc q).toArray] = some ({ c with inst:=p,bal:=q }:Lt).cs:=rfl
attribute [go_sem] Lt.lay_a Lt.lay_b Lt.lay_c Lt.lay_d Lt.lay_e Lt.lay_f
theorem Cel.lay_a (c:Cel) (s:Int) (p q:Int × Int) (x:Cmd) (a:Att) (b:Bool):lay c.cs [(0,1),(1,2),(3,2),(5,7),(12,8),(20,1)] [.int .i64 s,.agg (pc p).toArray,.agg (pc q).toArray,.agg x.cs.toArray,.agg a.cs.toArray,.bool b] = some (Cel.mk s p q x a b).cs:=rfl
theorem Cel.lay_b (c:Cel) (s:Int) (p q:Int × Int) (x:Cmd) (a:Att):lay c.cs [(0,1),(1,2),(3,2),(5,7),(12,8)] [.int .i64 s,.agg (pc p).toArray,.agg (pc q).toArray,.agg x.cs.toArray,.agg a.cs.toArray] = some (Cel.mk s p q x a c.same).cs:=rfl
theorem Cel.lay_c (c:Cel) (s:Int) (x:Cmd) (a:Att) (b:Bool):lay c.cs [(0,1),(5,7),(12,8),(20,1)] [.int .i64 s,.agg x.cs.toArray,.agg a.cs.toArray,.bool b] = some (Cel.mk s c.pr c.vo x a b).cs:=rfl
theorem Sd.lay_a (c:Sd) (r:Int) (x:Cel):lay c.cs [(0,1),(1,21)] [.int .i64 r,.agg x.cs.toArray] = some (Sd.mk r x).cs:=rfl
theorem Noted.lay_a (c:Noted) (x:Cmd) (s:Int):lay c.cs [(0,7),(7,1)] [.agg x.cs.toArray,.int .i64 s] = some (Noted.mk x s).cs:=rfl
theorem Prt.lay_a (c:Prt) (x y z w:Bool):lay c.cs [(0,1),(1,1),(2,1),(3,1)] [.bool x,.bool y,.bool z,.bool w] = some ({ c with inst:=x,bal:=y,cmd:=z,att:=w }:Prt).cs:=rfl
theorem Prt.lay_b (c:Prt) (x y z:Bool):lay c.cs [(0,1),(1,1),(3,1)] [.bool x,.bool y,.bool z] = some ({ c with inst:=x,bal:=y,att:=z }:Prt).cs:=rfl
theorem Prt.lay_c (c:Prt) (x y z:Bool):lay c.cs [(0,1),(1,1),(4,1)] [.bool x,.bool y,.bool z] = some ({ c with inst:=x,bal:=y,cel:=z }:Prt).cs:=rfl
theorem Prt.lay_d (c:Prt) (x y:Bool):lay c.cs [(0,1),(1,1)] [.bool x,.bool y] = some ({ c with inst:=x,bal:=y }:Prt).cs:=rfl
theorem Prt.lay_e (c:Prt) (x y z:Bool):lay c.cs [(0,1),(2,1),(3,1)] [.bool x,.bool y,.bool z] = some ({ c with inst:=x,cmd:=y,att:=z }:Prt).cs:=rfl
theorem Prt.lay_f (c:Prt) (x:Bool):lay c.cs [(5,1)] [.bool x] = some ({ c with deps:=x }:Prt).cs:=rfl
theorem Prt.lay_g (c:Prt) (x:Bool):lay c.cs [(6,1)] [.bool x] = some ({ c with data:=x }:Prt).cs:=rfl
attribute [go_sem] Cel.lay_a Cel.lay_b Cel.lay_c Sd.lay_a Noted.lay_a Prt.lay_a Prt.lay_b Prt.lay_c Prt.lay_d Prt.lay_e Prt.lay_f Prt.lay_g
/-! letters that may be -/
def Prt.of (k:Int):Prt:=if k = 1 ∨ k = 3 then ⟨true,true,true,true,false,false,false⟩ else if k = 2 then ⟨true,true,false,true,false,false,false⟩ else if k = 4 ∨ k = 6 ∨ k = 8 then ⟨true,true,false,false,false,false,false⟩
  else if k = 5 then ⟨true,false,true,true,false,false,false⟩ else if k = 7 then ⟨true,true,false,false,true,false,false⟩ else if k = 9 ∨ k = 11 then ⟨false,false,false,false,false,true,false⟩ else if k = 10 then ⟨false,false,false,false,false,false,true⟩ else Prt.zero
def Lt.bare (m:Lt) (p:Prt):Lt:=⟨m.kind,m.src,m.dst,if p.inst then m.inst else (0,0),if p.bal then m.bal else (0,0),if p.cmd then m.cmd else Cmd.zero,if p.att then m.att else Att.zero,if p.cel then m.cel else Cel.zero,if p.deps then m.deps else Dp.zero,if p.data then m.data else noB⟩
theorem named_s (k:Int) (m:Mem):MC Tryz.prog n_letter_named [.int .i64 k] m fun v m' => v = .tuple #[(Prt.of k).v,.bool (decide (1 ≤ k ∧ k ≤ 11))] ∧ Fr m m' []:=by
  refine Q69go (by simp [Tryz.f33]) ?_
  have H:=Hq.refl m []
  simp (disch:=omega) only [go_sem,undef]
  repeat' (first
    | ((with_reducible refine newQ H fun _ _ f H2 => ?_); clear f; clear H; have H:=H2; clear H2; simp (disch:=omega) only [go_sem,undef,H.cs, *])
    | ((with_reducible refine wrQ0 H fun _ f H2 => ?_); clear f; clear H; have H:=H2; clear H2; simp (disch:=omega) only [go_sem,undef,H.cs, *])
    | ((with_reducible refine wrQ1 H fun _ f H2 => ?_); clear f; clear H; have H:=H2; clear H2; simp (disch:=omega) only [go_sem,undef,H.cs, *])
    | ((with_reducible refine wrQ2 H fun _ f H2 => ?_); clear f; clear H; have H:=H2; clear H2; simp (disch:=omega) only [go_sem,undef,H.cs, *])
    | ((with_reducible refine wrQ3 H fun _ f H2 => ?_); clear f; clear H; have H:=H2; clear H2; simp (disch:=omega) only [go_sem,undef,H.cs, *])
    | ((with_reducible refine wrQ4 H fun _ f H2 => ?_); clear f; clear H; have H:=H2; clear H2; simp (disch:=omega) only [go_sem,undef,H.cs, *])
    | ((with_reducible refine wrQ5 H fun _ f H2 => ?_); clear f; clear H; have H:=H2; clear H2; simp (disch:=omega) only [go_sem,undef,H.cs, *])
    | ((with_reducible refine stwQ0 H ?hl ?h1 fun _ f H2 => ?_); (case hl => rfl); (case h1 => rfl); clear f; clear H; have H:=H2; clear H2; simp (disch:=omega) only [go_sem,undef,H.cs, *])
    | ((with_reducible refine stwQ1 H ?hl ?h1 fun _ f H2 => ?_); (case hl => rfl); (case h1 => rfl); clear f; clear H; have H:=H2; clear H2; simp (disch:=omega) only [go_sem,undef,H.cs, *])
    | ((with_reducible refine stwQ2 H ?hl ?h1 fun _ f H2 => ?_); (case hl => rfl); (case h1 => rfl); clear f; clear H; have H:=H2; clear H2; simp (disch:=omega) only [go_sem,undef,H.cs, *])
    | ((with_reducible refine stwQ3 H ?hl ?h1 fun _ f H2 => ?_); (case hl => rfl); (case h1 => rfl); clear f; clear H; have H:=H2; clear H2; simp (disch:=omega) only [go_sem,undef,H.cs, *])
    | ((with_reducible refine stwQ4 H ?hl ?h1 fun _ f H2 => ?_); (case hl => rfl); (case h1 => rfl); clear f; clear H; have H:=H2; clear H2; simp (disch:=omega) only [go_sem,undef,H.cs, *])
    | ((with_reducible refine stwQ5 H ?hl ?h1 fun _ f H2 => ?_); (case hl => rfl); (case h1 => rfl); clear f; clear H; have H:=H2; clear H2; simp (disch:=omega) only [go_sem,undef,H.cs, *])
    | ((with_reducible refine stQ0 H ?hl ?h1 fun _ f H2 => ?_); (case hl => exact Nat.le_of_ble_eq_true rfl); (case h1 => rfl); clear f; (simp only [go_sem] at H2); clear H; have H:=H2; clear H2; simp (disch:=omega) only [go_sem,undef,H.cs, *])
    | ((with_reducible refine stQ1 H ?hl ?h1 fun _ f H2 => ?_); (case hl => exact Nat.le_of_ble_eq_true rfl); (case h1 => rfl); clear f; (simp only [go_sem] at H2); clear H; have H:=H2; clear H2; simp (disch:=omega) only [go_sem,undef,H.cs, *])
    | ((with_reducible refine stQ2 H ?hl ?h1 fun _ f H2 => ?_); (case hl => exact Nat.le_of_ble_eq_true rfl); (case h1 => rfl); clear f; (simp only [go_sem] at H2); clear H; have H:=H2; clear H2; simp (disch:=omega) only [go_sem,undef,H.cs, *])
    | ((with_reducible refine stQ3 H ?hl ?h1 fun _ f H2 => ?_); (case hl => exact Nat.le_of_ble_eq_true rfl); (case h1 => rfl); clear f; (simp only [go_sem] at H2); clear H; have H:=H2; clear H2; simp (disch:=omega) only [go_sem,undef,H.cs, *])
    | ((with_reducible refine gQ_split (fun hq => ?_) (fun hq => ?_)) <;> (try simp only [Bool.not_true,Bool.not_false] at hq) <;> simp (disch:=omega) only [go_sem,undef,H.cs, *])
    | ((with_reducible refine condB_split (fun hq => ?_) (fun hq => ?_)) <;> simp (disch:=omega) only [go_sem,undef,H.cs, *]))
  all_goals (try simp only [decide_eq_true_eq,decide_eq_false_iff_not] at *)
  all_goals (have F:=H.fr; clear H; refine ⟨?_,F⟩; clear F)
  all_goals (rw [show decide (1 ≤ k ∧ k ≤ 11) = _ from by first | exact decide_eq_true (by omega) | exact decide_eq_false (by omega)]; simp [Prt.of, *])
theorem place_s (k:Int) (m:Mem):MC Tryz.prog n_letter_place [.int .i64 k] m fun v m' => v = .bool (decide (0 ≤ k ∧ k < 7)) ∧ Fr m m' []:=by
  refine Q70go (by simp [Tryz.f33]) ?_
  have H:=Hq.refl m []
  simp (disch:=omega) only [go_sem,undef]
  repeat' (first
    | ((with_reducible refine newQ H fun _ _ f H2 => ?_); clear f; clear H; have H:=H2; clear H2; simp (disch:=omega) only [go_sem,undef,H.cs, *])
    | ((with_reducible refine wrQ0 H fun _ f H2 => ?_); clear f; clear H; have H:=H2; clear H2; simp (disch:=omega) only [go_sem,undef,H.cs, *])
    | ((with_reducible refine wrQ1 H fun _ f H2 => ?_); clear f; clear H; have H:=H2; clear H2; simp (disch:=omega) only [go_sem,undef,H.cs, *])
    | ((with_reducible refine wrQ2 H fun _ f H2 => ?_); clear f; clear H; have H:=H2; clear H2; simp (disch:=omega) only [go_sem,undef,H.cs, *])
    | ((with_reducible refine wrQ3 H fun _ f H2 => ?_); clear f; clear H; have H:=H2; clear H2; simp (disch:=omega) only [go_sem,undef,H.cs, *])
    | ((with_reducible refine wrQ4 H fun _ f H2 => ?_); clear f; clear H; have H:=H2; clear H2; simp (disch:=omega) only [go_sem,undef,H.cs, *])
    | ((with_reducible refine wrQ5 H fun _ f H2 => ?_); clear f; clear H; have H:=H2; clear H2; simp (disch:=omega) only [go_sem,undef,H.cs, *])
    | ((with_reducible refine stwQ0 H ?hl ?h1 fun _ f H2 => ?_); (case hl => rfl); (case h1 => rfl); clear f; clear H; have H:=H2; clear H2; simp (disch:=omega) only [go_sem,undef,H.cs, *])
    | ((with_reducible refine stwQ1 H ?hl ?h1 fun _ f H2 => ?_); (case hl => rfl); (case h1 => rfl); clear f; clear H; have H:=H2; clear H2; simp (disch:=omega) only [go_sem,undef,H.cs, *])
    | ((with_reducible refine stwQ2 H ?hl ?h1 fun _ f H2 => ?_); (case hl => rfl); (case h1 => rfl); clear f; clear H; have H:=H2; clear H2; simp (disch:=omega) only [go_sem,undef,H.cs, *])
    | ((with_reducible refine stwQ3 H ?hl ?h1 fun _ f H2 => ?_); (case hl => rfl); (case h1 => rfl); clear f; clear H; have H:=H2; clear H2; simp (disch:=omega) only [go_sem,undef,H.cs, *])
    | ((with_reducible refine stwQ4 H ?hl ?h1 fun _ f H2 => ?_); (case hl => rfl); (case h1 => rfl); clear f; clear H; have H:=H2; clear H2; simp (disch:=omega) only [go_sem,undef,H.cs, *])
    | ((with_reducible refine stwQ5 H ?hl ?h1 fun _ f H2 => ?_); (case hl => rfl); (case h1 => rfl); clear f; clear H; have H:=H2; clear H2; simp (disch:=omega) only [go_sem,undef,H.cs, *])
    | ((with_reducible refine stQ0 H ?hl ?h1 fun _ f H2 => ?_); (case hl => exact Nat.le_of_ble_eq_true rfl); (case h1 => rfl); clear f; (simp only [go_sem] at H2); clear H; have H:=H2; clear H2; simp (disch:=omega) only [go_sem,undef,H.cs, *])
    | ((with_reducible refine stQ1 H ?hl ?h1 fun _ f H2 => ?_); (case hl => exact Nat.le_of_ble_eq_true rfl); (case h1 => rfl); clear f; (simp only [go_sem] at H2); clear H; have H:=H2; clear H2; simp (disch:=omega) only [go_sem,undef,H.cs, *])
    | ((with_reducible refine stQ2 H ?hl ?h1 fun _ f H2 => ?_); (case hl => exact Nat.le_of_ble_eq_true rfl); (case h1 => rfl); clear f; (simp only [go_sem] at H2); clear H; have H:=H2; clear H2; simp (disch:=omega) only [go_sem,undef,H.cs, *])
    | ((with_reducible refine stQ3 H ?hl ?h1 fun _ f H2 => ?_); (case hl => exact Nat.le_of_ble_eq_true rfl); (case h1 => rfl); clear f; (simp only [go_sem] at H2); clear H; have H:=H2; clear H2; simp (disch:=omega) only [go_sem,undef,H.cs, *])
    | ((with_reducible refine gQ_split (fun hq => ?_) (fun hq => ?_)) <;> (try simp only [Bool.not_true,Bool.not_false] at hq) <;> simp (disch:=omega) only [go_sem,undef,H.cs, *])
    | ((with_reducible refine condB_split (fun hq => ?_) (fun hq => ?_)) <;> simp (disch:=omega) only [go_sem,undef,H.cs, *]))
  all_goals (try simp only [decide_eq_true_eq,decide_eq_false_iff_not] at *)
  all_goals exact ⟨by first | rfl | (simp only [Value.bool.injEq,decide_eq_true_eq,eq_comm (a:=true),eq_comm (a:=false),decide_eq_false_iff_not,decide_eq_decide]; grind []),H.fr⟩
theorem Prt.cases (k:Int) {P:Prt → Prop} (h1:P ⟨true,true,true,true,false,false,false⟩) (h2:P ⟨true,true,false,true,false,false,false⟩) (h3:P ⟨true,true,false,false,false,false,false⟩) (h4:P ⟨true,false,true,true,false,false,false⟩) (h5:P ⟨true,true,false,false,true,false,false⟩) (h6:P ⟨false,false,false,false,false,true,false⟩) (h7:P ⟨false,false,false,false,false,false,true⟩) (h8:P ⟨false,false,false,false,false,false,false⟩):P (Prt.of k):=by
  unfold Prt.of
  repeat' split
  all_goals assumption
theorem bare_s (m:Lt) (k:Int) (M:Mem):MC Tryz.prog n_letter_bare [m.v,(Prt.of k).v] M fun v m' => v = (m.bare (Prt.of k)).v ∧ Fr M m' []:=by
  refine Prt.cases k (P:=fun p => MC Tryz.prog n_letter_bare [m.v,p.v] M fun v m' => v = (m.bare p).v ∧ Fr M m' []) ?_ ?_ ?_ ?_ ?_ ?_ ?_ ?_
  all_goals
    refine Q71go (by simp [Tryz.f33]) ?_
    have H:=Hq.refl M []
    simp (disch:=omega) only [go_sem,undef]
    repeat' (first
      | ((with_reducible refine newQ H fun _ _ f H2 => ?_); clear f; clear H; have H:=H2; clear H2; simp (disch:=omega) only [go_sem,undef,H.cs, *])
      | ((with_reducible refine wrQ0 H fun _ f H2 => ?_); clear f; clear H; have H:=H2; clear H2; simp (disch:=omega) only [go_sem,undef,H.cs, *])
      | ((with_reducible refine wrQ1 H fun _ f H2 => ?_); clear f; clear H; have H:=H2; clear H2; simp (disch:=omega) only [go_sem,undef,H.cs, *])
      | ((with_reducible refine wrQ2 H fun _ f H2 => ?_); clear f; clear H; have H:=H2; clear H2; simp (disch:=omega) only [go_sem,undef,H.cs, *])
      | ((with_reducible refine wrQ3 H fun _ f H2 => ?_); clear f; clear H; have H:=H2; clear H2; simp (disch:=omega) only [go_sem,undef,H.cs, *])
      | ((with_reducible refine wrQ4 H fun _ f H2 => ?_); clear f; clear H; have H:=H2; clear H2; simp (disch:=omega) only [go_sem,undef,H.cs, *])
      | ((with_reducible refine wrQ5 H fun _ f H2 => ?_); clear f; clear H; have H:=H2; clear H2; simp (disch:=omega) only [go_sem,undef,H.cs, *])
      | ((with_reducible refine stwQ0 H ?hl ?h1 fun _ f H2 => ?_); (case hl => rfl); (case h1 => rfl); clear f; clear H; have H:=H2; clear H2; simp (disch:=omega) only [go_sem,undef,H.cs, *])
      | ((with_reducible refine stwQ1 H ?hl ?h1 fun _ f H2 => ?_); (case hl => rfl); (case h1 => rfl); clear f; clear H; have H:=H2; clear H2; simp (disch:=omega) only [go_sem,undef,H.cs, *])
      | ((with_reducible refine stwQ2 H ?hl ?h1 fun _ f H2 => ?_); (case hl => rfl); (case h1 => rfl); clear f; clear H; have H:=H2; clear H2; simp (disch:=omega) only [go_sem,undef,H.cs, *])
      | ((with_reducible refine stwQ3 H ?hl ?h1 fun _ f H2 => ?_); (case hl => rfl); (case h1 => rfl); clear f; clear H; have H:=H2; clear H2; simp (disch:=omega) only [go_sem,undef,H.cs, *])
      | ((with_reducible refine stwQ4 H ?hl ?h1 fun _ f H2 => ?_); (case hl => rfl); (case h1 => rfl); clear f; clear H; have H:=H2; clear H2; simp (disch:=omega) only [go_sem,undef,H.cs, *])
      | ((with_reducible refine stwQ5 H ?hl ?h1 fun _ f H2 => ?_); (case hl => rfl); (case h1 => rfl); clear f; clear H; have H:=H2; clear H2; simp (disch:=omega) only [go_sem,undef,H.cs, *])
      | ((with_reducible refine stQ0 H ?hl ?h1 fun _ f H2 => ?_); (case hl => exact Nat.le_of_ble_eq_true rfl); (case h1 => rfl); clear f; (simp only [go_sem] at H2); clear H; have H:=H2; clear H2; simp (disch:=omega) only [go_sem,undef,H.cs, *])
      | ((with_reducible refine stQ1 H ?hl ?h1 fun _ f H2 => ?_); (case hl => exact Nat.le_of_ble_eq_true rfl); (case h1 => rfl); clear f; (simp only [go_sem] at H2); clear H; have H:=H2; clear H2; simp (disch:=omega) only [go_sem,undef,H.cs, *])
      | ((with_reducible refine stQ2 H ?hl ?h1 fun _ f H2 => ?_); (case hl => exact Nat.le_of_ble_eq_true rfl); (case h1 => rfl); clear f; (simp only [go_sem] at H2); clear H; have H:=H2; clear H2; simp (disch:=omega) only [go_sem,undef,H.cs, *])
      | ((with_reducible refine stQ3 H ?hl ?h1 fun _ f H2 => ?_); (case hl => exact Nat.le_of_ble_eq_true rfl); (case h1 => rfl); clear f; (simp only [go_sem] at H2); clear H; have H:=H2; clear H2; simp (disch:=omega) only [go_sem,undef,H.cs, *])
      | ((with_reducible refine gQ_split (fun hq => ?_) (fun hq => ?_)) <;> (try simp only [Bool.not_true,Bool.not_false] at hq) <;> simp (disch:=omega) only [go_sem,undef,H.cs, *])
      | ((with_reducible refine condB_split (fun hq => ?_) (fun hq => ?_)) <;> simp (disch:=omega) only [go_sem,undef,H.cs, *]))
    exact ⟨rfl,H.fr⟩
def Lt.right (m:Lt):Prop:=(1 ≤ m.kind ∧ m.kind ≤ 11) ∧ (0 ≤ m.src ∧ m.src < 7) ∧ (0 ≤ m.dst ∧ m.dst < 7) ∧ m.src ≠ m.dst ∧ m = m.bare (Prt.of m.kind) ∧ ((Prt.of m.kind).inst = true → rightI m.inst) ∧ rightB m.bal ∧ m.cmd.right ∧ rightA m.att ∧ m.cel.right ∧ rightA ⟨0,m.deps⟩ ∧ m.data.size ≤ 16384
instance (m:Lt):Decidable m.right:=by unfold Lt.right; exact inferInstance
end Go.Fw
namespace Go.Fw
open Go.Proofs
variable {m m0 M:Mem} {S:List Nat} {L:List As}
theorem Att.lay_d (c:Att) (d:Dp):lay c.cs [(1,7)] [.agg (dv d).toArray] = some ({ c with deps:=d }:Att).cs:=rfl
set_option maxHeartbeats 4000000 in
theorem letter_Right_s (m:Lt) (M:Mem):MC Tryz.prog n_letter_Right [m.v] M fun v m' => v = .bool (decide m.right) ∧ Fr M m' []:=by
  refine Q42go (by simp [Tryz.f33]) ?_
  have H:=Hq.refl M []
  simp (disch:=omega) only [go_sem,undef]
  repeat' (first
    | ((with_reducible refine newQ H fun _ _ f H2 => ?_); clear f; clear H; have H:=H2; clear H2; simp (disch:=omega) only [go_sem,undef,H.cs, *])
    | ((with_reducible refine wrQ0 H fun _ f H2 => ?_); clear f; clear H; have H:=H2; clear H2; simp (disch:=omega) only [go_sem,undef,H.cs, *])
    | ((with_reducible refine wrQ1 H fun _ f H2 => ?_); clear f; clear H; have H:=H2; clear H2; simp (disch:=omega) only [go_sem,undef,H.cs, *])
    | ((with_reducible refine wrQ2 H fun _ f H2 => ?_); clear f; clear H; have H:=H2; clear H2; simp (disch:=omega) only [go_sem,undef,H.cs, *])
    | ((with_reducible refine wrQ3 H fun _ f H2 => ?_); clear f; clear H; have H:=H2; clear H2; simp (disch:=omega) only [go_sem,undef,H.cs, *])
    | ((with_reducible refine wrQ4 H fun _ f H2 => ?_); clear f; clear H; have H:=H2; clear H2; simp (disch:=omega) only [go_sem,undef,H.cs, *])
    | ((with_reducible refine wrQ5 H fun _ f H2 => ?_); clear f; clear H; have H:=H2; clear H2; simp (disch:=omega) only [go_sem,undef,H.cs, *])
    | ((with_reducible refine stwQ0 H ?hl ?h1 fun _ f H2 => ?_); (case hl => rfl); (case h1 => rfl); clear f; clear H; have H:=H2; clear H2; simp (disch:=omega) only [go_sem,undef,H.cs, *])
    | ((with_reducible refine stwQ1 H ?hl ?h1 fun _ f H2 => ?_); (case hl => rfl); (case h1 => rfl); clear f; clear H; have H:=H2; clear H2; simp (disch:=omega) only [go_sem,undef,H.cs, *])
    | ((with_reducible refine stwQ2 H ?hl ?h1 fun _ f H2 => ?_); (case hl => rfl); (case h1 => rfl); clear f; clear H; have H:=H2; clear H2; simp (disch:=omega) only [go_sem,undef,H.cs, *])
    | ((with_reducible refine stwQ3 H ?hl ?h1 fun _ f H2 => ?_); (case hl => rfl); (case h1 => rfl); clear f; clear H; have H:=H2; clear H2; simp (disch:=omega) only [go_sem,undef,H.cs, *])
    | ((with_reducible refine stwQ4 H ?hl ?h1 fun _ f H2 => ?_); (case hl => rfl); (case h1 => rfl); clear f; clear H; have H:=H2; clear H2; simp (disch:=omega) only [go_sem,undef,H.cs, *])
    | ((with_reducible refine stwQ5 H ?hl ?h1 fun _ f H2 => ?_); (case hl => rfl); (case h1 => rfl); clear f; clear H; have H:=H2; clear H2; simp (disch:=omega) only [go_sem,undef,H.cs, *])
    | ((with_reducible refine stQ0 H ?hl ?h1 fun _ f H2 => ?_); (case hl => exact Nat.le_of_ble_eq_true rfl); (case h1 => rfl); clear f; (simp only [go_sem] at H2); clear H; have H:=H2; clear H2; simp (disch:=omega) only [go_sem,undef,H.cs, *])
    | ((with_reducible refine stQ1 H ?hl ?h1 fun _ f H2 => ?_); (case hl => exact Nat.le_of_ble_eq_true rfl); (case h1 => rfl); clear f; (simp only [go_sem] at H2); clear H; have H:=H2; clear H2; simp (disch:=omega) only [go_sem,undef,H.cs, *])
    | ((with_reducible refine stQ2 H ?hl ?h1 fun _ f H2 => ?_); (case hl => exact Nat.le_of_ble_eq_true rfl); (case h1 => rfl); clear f; (simp only [go_sem] at H2); clear H; have H:=H2; clear H2; simp (disch:=omega) only [go_sem,undef,H.cs, *])
    | ((with_reducible refine stQ3 H ?hl ?h1 fun _ f H2 => ?_); (case hl => exact Nat.le_of_ble_eq_true rfl); (case h1 => rfl); clear f; (simp only [go_sem] at H2); clear H; have H:=H2; clear H2; simp (disch:=omega) only [go_sem,undef,H.cs, *])
    | ((with_reducible refine callQ H (named_s _ _) fun _ f H2 => ?_); clear f; clear H; have H:=H2; clear H2; simp (disch:=omega) only [go_sem,undef,H.cs, *])
    | ((with_reducible refine callQ H (place_s _ _) fun _ f H2 => ?_); clear f; clear H; have H:=H2; clear H2; simp (disch:=omega) only [go_sem,undef,H.cs, *])
    | ((with_reducible refine callQ H (bare_s _ _ _) fun _ f H2 => ?_); clear f; clear H; have H:=H2; clear H2; simp (disch:=omega) only [go_sem,undef,H.cs, *])
    | ((with_reducible refine callQ H (inst_Right_s _ _) fun _ f H2 => ?_); clear f; clear H; have H:=H2; clear H2; simp (disch:=omega) only [go_sem,undef,H.cs, *])
    | ((with_reducible refine callQ H (inst_RightBallot_s _ _) fun _ f H2 => ?_); clear f; clear H; have H:=H2; clear H2; simp (disch:=omega) only [go_sem,undef,H.cs, *])
    | ((with_reducible refine callQ H (cmd_Right_s _ _) fun _ f H2 => ?_); clear f; clear H; have H:=H2; clear H2; simp (disch:=omega) only [go_sem,undef,H.cs, *])
    | ((with_reducible refine callQ H (deps_Right_s _ _) fun _ f H2 => ?_); clear f; clear H; have H:=H2; clear H2; simp (disch:=omega) only [go_sem,undef,H.cs, *])
    | ((with_reducible refine callQ H (letter_RightCell_s _ _) fun _ f H2 => ?_); clear f; clear H; have H:=H2; clear H2; simp (disch:=omega) only [go_sem,undef,H.cs, *])
    | ((with_reducible refine gQ_split (fun hq => ?_) (fun hq => ?_)) <;> (try simp only [Bool.not_true,Bool.not_false] at hq) <;> simp (disch:=omega) only [go_sem,undef,H.cs, *])
    | ((with_reducible refine condB_split (fun hq => ?_) (fun hq => ?_)) <;> simp (disch:=omega) only [go_sem,undef,H.cs, *]))
  all_goals (try simp only [decide_eq_true_eq,decide_eq_false_iff_not] at *)
  all_goals (have F:=H.fr; clear H; refine ⟨?_,F⟩; clear F)
  all_goals first
    | exact congrArg Value.bool (decide_eq_false fun h:m.right => absurd (h.1) (by assumption)).symm
    | exact congrArg Value.bool (decide_eq_false fun h:m.right => absurd (h.2.1) (by assumption)).symm
    | exact congrArg Value.bool (decide_eq_false fun h:m.right => absurd (h.2.2.1) (by assumption)).symm
    | exact congrArg Value.bool (decide_eq_false fun h:m.right => absurd (by assumption) (h.2.2.2.1)).symm
    | exact congrArg Value.bool (decide_eq_false fun h:m.right => absurd (h.2.2.2.2.1) (by assumption)).symm
    | exact congrArg Value.bool (decide_eq_false fun h:m.right => absurd (h.2.2.2.2.2.1 (by assumption)) (by assumption)).symm
    | exact congrArg Value.bool (decide_eq_false fun h:m.right => absurd (h.2.2.2.2.2.2.1) (by assumption)).symm
    | exact congrArg Value.bool (decide_eq_false fun h:m.right => absurd (h.2.2.2.2.2.2.2.1) (by assumption)).symm
    | exact congrArg Value.bool (decide_eq_false fun h:m.right => absurd (h.2.2.2.2.2.2.2.2.1) (by assumption)).symm
    | exact congrArg Value.bool (decide_eq_false fun h:m.right => absurd (h.2.2.2.2.2.2.2.2.2.1) (by assumption)).symm
    | exact congrArg Value.bool (decide_eq_false fun h:m.right => absurd (h.2.2.2.2.2.2.2.2.2.2.1) (by assumption)).symm
    | exact congrArg Value.bool (decide_eq_false fun h:m.right => absurd (h.2.2.2.2.2.2.2.2.2.2.2) (by assumption)).symm
    | exact congrArg Value.bool (decide_eq_decide.2 ⟨fun h => ⟨by assumption,by assumption,by assumption,by assumption,by assumption,fun h2 => (by first | assumption | exact Bool.noConfusion (h2.symm.trans (by assumption:(Prt.of m.kind).inst = false))),by assumption,by assumption,by assumption,by assumption,by assumption,by omega⟩,fun h:m.right => by have:=h.2.2.2.2.2.2.2.2.2.2.2; omega⟩)
end Go.Fw
namespace Go.Fw
open Go.Proofs
variable {m m0 M:Mem} {S:List Nat} {L:List As}
def joinA (a b:Att):Att:=⟨max a.seq b.seq,fun i => max (a.deps i) (b.deps i)⟩
def joinL:List Att → Att
  | [] => Att.zero
  | x :: r => r.foldl joinA x
theorem join_g (a b:Att) (k:Nat) (h:k < 7):(joinA a b).deps.g k = max (a.deps.g k) (b.deps.g k):=by simp [Dp.g,h,joinA]
theorem foldl_take {α β:Type} (f:β → α → β) (x:β) (l:List α) (j:Nat) (y:α) (h:l[j]? = some y):(l.take (j + 1)).foldl f x = f ((l.take j).foldl f x) y:=by
  rw [List.take_add_one,h]; simp
set_option maxHeartbeats 4000000 in
theorem join_s {a:Option Addr} {c n:Nat} {l:List Att} (hl:l.length = n) (hv:RdS 8 Att.cs m (.slice a n c) l) (h0:0 < n) (hn:n ≤ 1000):MC Tryz.prog n_deps_Join [.slice a n c] m fun v m' => v = (joinL l).v ∧ Fr m m' []:=by
  subst hl
  obtain ⟨x,r,rfl⟩:∃ x r,l = x :: r:=by cases l with
    | nil => simp at h0
    | cons x r => exact ⟨x,r,rfl⟩
  obtain ⟨a1,c1,hc1,hr1,_⟩:=hv.cut (by decide) 1 (x :: r).length (by simp) (Nat.le_refl _)
  rw [List.take_length] at hr1
  obtain ⟨b1,o1,hx1,hix,hE⟩:∃ b o,(x :: r)[0]? = some x ∧ IxAt 8 (.slice a (x :: r).length c) 0 b o ∧ El 8 Att.cs m b o x:=by
    refine RdS.elK hv h0 (by decide) fun b o y hy hi he => ?_
    cases hy
    exact ⟨b,o,rfl,hi,he⟩
  have hlr:(x :: r).length - 1 = r.length:=rfl
  have hr2:RdS 8 Att.cs m (.slice a1 r.length c1) r:=hr1
  clear hr1
  rw [hlr] at hc1
  have hn1:(x :: r).length = r.length + 1:=rfl
  have hjl:joinL (x :: r) = (r.take r.length).foldl joinA x:=by rw [List.take_length]; rfl
  rw [hjl]
  clear hjl hv
  generalize (x :: r).length = n at *
  refine Q101go (by simp [Tryz.f33]) ?_
  have H:=Hq.refl m []
  have nc1:((1:Nat):Int) = 1:=rfl
  rw [nc1] at hc1
  have hix0:∀ M,rd (.ixs 8) [.slice a n c,.int .i64 0] M = some (.pointer (some ⟨b1,o1,none⟩)):=fun M => hix _ M
  simp (disch:=omega) only [go_sem,undef]
  refine newQ H fun b M f H => ?_
  simp (disch:=omega) only [go_sem,undef,dec_f (show ¬ ((n:Nat):Int) = 0 by omega),hix0,(hE.frame f).lda0 8 (by decide) (by decide)]
  refine newQ H fun b3 M f H => ?_
  simp (disch:=omega) only [go_sem,undef,H.cs]
  refine stwQ0 H rfl rfl fun M f H => ?_
  simp (disch:=omega) only [go_sem,undef,hc1]
  refine loopQ_intro (fun k E m' => ∃ (j:Nat) (y:Att),j ≤ r.length ∧ k = r.length - j ∧ y = (r.take j).foldl joinA x ∧ E = [(2,.pointer (some ⟨b,0,none⟩)),(3,.pointer (some ⟨b3,0,none⟩)),(16,.slice a1 r.length c1),(17,.int .i64 (r.length:Nat)),(18,.int .i64 (j:Nat))] ∧
    Hq m m' [] [cellA b3 (.cells y.cs.toArray T_api_Attr),cellA b (.cells Att.zero.cs.toArray T_api_Attr)]) r.length rfl ⟨0,x,by omega,rfl,rfl,rfl,H⟩ ?_
  clear H f hE hix0
  rintro k E M1 ⟨j,y,hj,rfl,hy,rfl,H⟩
  by_cases hlt:j < r.length
  · refine RdS.elK (hr2.frame H.fr) hlt (by decide) fun bx o z hz hixz hEz => ?_
    have hs:=foldl_take joinA x r j z hz
    rw [← hy] at hs
    simp (disch:=omega) only [go_sem,undef,dec_t (show ((j:Nat):Int) < (r.length:Nat) by omega),hixz,hEz.lda0 8 (by decide) (by decide)]
    refine newQ H fun b5 M f H => ?_
    simp (disch:=omega) only [go_sem,undef,H.cs]
    refine stwQ0 H rfl rfl fun M f H => ?_
    simp (disch:=omega) only [go_sem,undef,H.cs]
    refine wrQ1 H fun M f H => ?_
    simp (disch:=omega) only [go_sem,undef,H.cs]
    refine loopQ_intro (fun k E m' => ∃ (i:Nat) (d:Dp),i ≤ 7 ∧ k = 7 - i ∧ (∀ t,t < i → d.g t = max (y.deps.g t) (z.deps.g t)) ∧ (∀ t,i ≤ t → d.g t = y.deps.g t) ∧ E = [(2,.pointer (some ⟨b,0,none⟩)),(3,.pointer (some ⟨b3,0,none⟩)),(16,.slice a1 r.length c1),(17,.int .i64 (r.length:Nat)),(18,.int .i64 (j:Nat)),(29,.agg (dv z.deps).toArray),(30,.int .i64 (i:Nat))] ∧
      Hq m m' [] [cellA b5 (.cells z.cs.toArray T_api_Attr),cellA b3 (.cells (Att.mk (max y.seq z.seq) d).cs.toArray T_api_Attr),cellA b (.cells Att.zero.cs.toArray T_api_Attr)]) 7 rfl ⟨0,y.deps,by omega,rfl,by simp,by simp,rfl,H⟩ ?_
    clear H f hEz hixz
    rintro k E M2 ⟨i,d,hi,rfl,hd1,hd2,rfl,H⟩
    by_cases hlt7:i < 7
    · simp (disch:=omega) only [go_sem,undef,dec_t (show ((i:Nat):Int) < 7 by omega),H.cs]
      refine wrQ1 H fun M f H => ?_
      simp (disch:=omega) only [go_sem,undef]
      refine handN_intro (7 - (i + 1)) (by omega) ⟨i + 1,_,by omega,rfl,fun t ht => ?_,fun t ht => ?_,rfl,H⟩
      · rw [Dp.up_g]
        by_cases e:t = i
        · subst e; rw [if_pos ⟨rfl,hlt7⟩,hd2 t (Nat.le_refl _)]
        · rw [if_neg (fun h => e h.1)]; exact hd1 t (by omega)
      · rw [Dp.up_g,if_neg (by omega)]; exact hd2 t (by omega)
    · have e:d = (joinA y z).deps:=Dp.ext_g fun t ht => by rw [join_g y z t ht]; exact hd1 t (by omega)
      subst e
      simp (disch:=omega) only [go_sem,undef,dec_f (show ¬ ((i:Nat):Int) < 7 by omega)]
      exact handN_intro (r.length - (j + 1)) (by omega) ⟨j + 1,joinA y z,by omega,rfl,hs.symm,rfl,H.tail⟩
  · have e:j = r.length:=by omega
    subst e
    simp (disch:=omega) only [go_sem,undef,dec_f (show ¬ ((r.length:Nat):Int) < (r.length:Nat) by omega),H.cs]
    refine stwQ1 H rfl rfl fun M f H => ?_
    simp (disch:=omega) only [go_sem,undef,H.cs]
    exact ⟨by rw [hy],H.fr⟩
end Go.Fw
