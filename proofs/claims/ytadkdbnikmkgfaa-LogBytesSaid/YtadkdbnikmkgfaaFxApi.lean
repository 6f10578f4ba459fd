import Derived.Test.YtadkdbnikmkgfaaFxHp
/-! The program's values: pairs of numbers, commands, rows of slots, attributes, cells. -/
namespace Go.Fw
open Go
instance : DecidableEq ByteArray := fun a b => decidable_of_iff (a.data = b.data) ⟨fun h => by cases a; cases b; simp_all, fun h => by rw [h]⟩

theorem le1_str (a b : ByteArray) : le1 .s (.string a) (.string b) = some (decide (a = b)) := by
  rw [le1_s]
  congr 1
  rw [Bool.eq_iff_iff]
  simp only [beq_iff_eq, decide_eq_true_eq]
  exact ⟨fun h => by cases a; cases b; simp at h; rw [h], fun h => by rw [h]⟩
attribute [-go_sem] le1_s
attribute [go_sem] le1_str

theorem beq_str (a b : ByteArray) : (a.data.toList == b.data.toList) = decide (a = b) := by
  have := le1_str a b; rw [le1_s] at this; exact Option.some.inj this
theorem rd_str_eql {m : Mem} (a b : ByteArray) : rd (.str .eql) [.string a, .string b] m = some (.bool (decide (a = b))) := by rw [← beq_str]; rfl
theorem rd_str_neq {m : Mem} (a b : ByteArray) : rd (.str .neq) [.string a, .string b] m = some (.bool (!decide (a = b))) := by rw [← beq_str]; rfl
attribute [go_sem] rd_str_eql rd_str_neq
theorem rd_idx {m : Mem} (len size : Nat) (cs : Array Value) (k : IntKind) (i : Int) (h : 0 ≤ i ∧ i < len) : rd (.idx len size) [.agg cs, .int k i] m = cs[i.toNat * size]? := by
  show (if _ then _ else _) = _; rw [if_pos h]
theorem rd_idxs {m : Mem} (s : ByteArray) (k : IntKind) (i : Int) (h : 0 ≤ i) : rd .idxs [.string s, .int k i] m = (s[i.toNat]?).map fun b => .int .u8 b.toNat := by
  show (if _ then _ else _) = _; rw [if_pos h]
attribute [go_sem] rd_idx rd_idxs
def pc (p : Int × Int) : List Value := [.int .i64 p.1, .int .i64 p.2]
abbrev pv (p : Int × Int) : Value := .agg (pc p).toArray
theorem pc_len (p : Int × Int) : (pc p).length = 2 := rfl
theorem pc_0 (p : Int × Int) : (pc p)[0]? = some (.int .i64 p.1) := rfl
theorem pc_1 (p : Int × Int) : (pc p)[1]? = some (.int .i64 p.2) := rfl
theorem pc_s0 (p : Int × Int) (x : Int) : (pc p).set 0 (.int .i64 x) = pc (x, p.2) := rfl
theorem pc_s1 (p : Int × Int) (x : Int) : (pc p).set 1 (.int .i64 x) = pc (p.1, x) := rfl
theorem pc_fa (a b : Int) : Value.agg (List.toArray [Value.int .i64 a, Value.int .i64 b]) = .agg (pc (a, b)).toArray := rfl
theorem pc_fl (a b : Int) (ps : List (Nat × Nat)) (vs : List Value) : lay [Value.int .i64 a, Value.int .i64 b] ps vs = lay (pc (a, b)) ps vs := rfl
theorem pc_fc (a b : Int) (t : TypeId) (fr : Nat × Nat) : Obj.cells (List.toArray [Value.int .i64 a, Value.int .i64 b]) t fr = .cells (pc (a, b)).toArray t fr := rfl
attribute [go_sem ↓] pc_fa pc_fl pc_fc
theorem pc_take (p : Int × Int) : (pc p).take 2 = pc p := rfl
theorem pc_lay2 (p : Int × Int) (a b : Int) : lay (pc p) [(0, 1), (1, 1)] [.int .i64 a, .int .i64 b] = some (pc (a, b)) := rfl
theorem pc_lay0 (p : Int × Int) (a : Int) : lay (pc p) [(0, 1)] [.int .i64 a] = some (pc (a, p.2)) := rfl
theorem pc_lay1 (p : Int × Int) (a : Int) : lay (pc p) [(1, 1)] [.int .i64 a] = some (pc (p.1, a)) := rfl
theorem pc_layw (p q : Int × Int) : lay (pc p) [(0, 2)] [.agg (pc q).toArray] = some (pc q) := rfl
attribute [go_sem] pc_layw
theorem pc_eq (p q : Int × Int) : leafEq [.i .i64, .i .i64] (pc p) (pc q) = some (decide (p = q)) := by
  simp only [pc, leafEq_cons, le1_i, leafEq_nil, Option.bind_some, Option.map_some, Bool.and_true]
  congr 1; rw [Bool.eq_iff_iff]; simp [Prod.ext_iff]
theorem pc_one (p : Int × Int) : (pc p).all Value.oneCell' = true := rfl

structure Cmd where
  kind : Int
  client : Int
  seq : Int
  key : ByteArray
  fin : ByteArray
  old : ByteArray
  val : ByteArray
  deriving DecidableEq
abbrev noB : ByteArray := ⟨#[]⟩
abbrev Cmd.zero : Cmd := ⟨0, 0, 0, noB, noB, noB, noB⟩
def Cmd.cs (c : Cmd) : List Value := [.int .i64 c.kind, .int .i64 c.client, .int .i64 c.seq, .string c.key, .string c.fin, .string c.old, .string c.val]
abbrev Cmd.v (c : Cmd) : Value := .agg c.cs.toArray
theorem Cmd.len (c : Cmd) : c.cs.length = 7 := rfl
theorem Cmd.g0 (c : Cmd) : c.cs[0]? = some (.int .i64 c.kind) := rfl
theorem Cmd.g1 (c : Cmd) : c.cs[1]? = some (.int .i64 c.client) := rfl
theorem Cmd.g2 (c : Cmd) : c.cs[2]? = some (.int .i64 c.seq) := rfl
theorem Cmd.g3 (c : Cmd) : c.cs[3]? = some (.string c.key) := rfl
theorem Cmd.g4 (c : Cmd) : c.cs[4]? = some (.string c.fin) := rfl
theorem Cmd.g5 (c : Cmd) : c.cs[5]? = some (.string c.old) := rfl
theorem Cmd.g6 (c : Cmd) : c.cs[6]? = some (.string c.val) := rfl
theorem Cmd.s0 (c : Cmd) (x : Int) : c.cs.set 0 (.int .i64 x) = ({ c with kind := x } : Cmd).cs := rfl
theorem Cmd.s1 (c : Cmd) (x : Int) : c.cs.set 1 (.int .i64 x) = ({ c with client := x } : Cmd).cs := rfl
theorem Cmd.s2 (c : Cmd) (x : Int) : c.cs.set 2 (.int .i64 x) = ({ c with seq := x } : Cmd).cs := rfl
theorem Cmd.s3 (c : Cmd) (x : ByteArray) : c.cs.set 3 (.string x) = ({ c with key := x } : Cmd).cs := rfl
theorem Cmd.s4 (c : Cmd) (x : ByteArray) : c.cs.set 4 (.string x) = ({ c with fin := x } : Cmd).cs := rfl
theorem Cmd.s5 (c : Cmd) (x : ByteArray) : c.cs.set 5 (.string x) = ({ c with old := x } : Cmd).cs := rfl
theorem Cmd.s6 (c : Cmd) (x : ByteArray) : c.cs.set 6 (.string x) = ({ c with val := x } : Cmd).cs := rfl
theorem Cmd.all (c : Cmd) : c.cs.take 7 = c.cs := rfl
theorem Cmd_fa (a b d : Int) (w x y z : ByteArray) : Value.agg (List.toArray [Value.int .i64 a, .int .i64 b, .int .i64 d, .string w, .string x, .string y, .string z]) = .agg ((Cmd.mk a b d w x y z).cs).toArray := rfl
theorem Cmd_fl (a b d : Int) (w x y z : ByteArray) (ps : List (Nat × Nat)) (vs : List Value) : lay [Value.int .i64 a, .int .i64 b, .int .i64 d, .string w, .string x, .string y, .string z] ps vs = lay ((Cmd.mk a b d w x y z).cs) ps vs := rfl
theorem Cmd_fc (a b d : Int) (w x y z : ByteArray) (t : TypeId) (fr : Nat × Nat) : Obj.cells (List.toArray [Value.int .i64 a, .int .i64 b, .int .i64 d, .string w, .string x, .string y, .string z]) t fr = .cells ((Cmd.mk a b d w x y z).cs).toArray t fr := rfl
attribute [go_sem ↓] Cmd_fa Cmd_fl Cmd_fc
theorem Cmd.one (c : Cmd) : c.cs.all Value.oneCell' = true := rfl
theorem Cmd.eq (c d : Cmd) : leafEq [.i .i64, .i .i64, .i .i64, .s, .s, .s, .s] c.cs d.cs = some (decide (c = d)) := by
  simp only [Cmd.cs, leafEq_cons, le1_i, le1_str, leafEq_nil, Option.bind_some, Option.map_some, Bool.and_true]
  congr 1; rw [Bool.eq_iff_iff]; cases c; cases d; simp [and_assoc]
theorem Cmd.lay0 (c : Cmd) (a : Int) : lay c.cs [(0, 1)] [.int .i64 a] = some ({ c with kind := a } : Cmd).cs := rfl
theorem Cmd.lay4 (c : Cmd) (a b d : Int) (k : ByteArray) : lay c.cs [(0, 1), (1, 1), (2, 1), (3, 1)] [.int .i64 a, .int .i64 b, .int .i64 d, .string k] = some (Cmd.mk a b d k c.fin c.old c.val).cs := rfl
theorem Cmd.layw (c d : Cmd) : lay c.cs [(0, 7)] [.agg d.cs.toArray] = some d.cs := rfl
attribute [go_sem] Cmd.layw
theorem Cmd.lay_0 (c : Cmd) : lay c.cs [] [] = some c.cs := rfl

abbrev Dp := Fin 7 → Int
instance : DecidableEq (Fin 7 → Int) := fun a b => decidable_of_iff (∀ i, a i = b i) ⟨funext, fun h i => by rw [h]⟩
def dv (d : Dp) : List Value := [.int .i64 (d 0), .int .i64 (d 1), .int .i64 (d 2), .int .i64 (d 3), .int .i64 (d 4), .int .i64 (d 5), .int .i64 (d 6)]
abbrev Dp.v (d : Dp) : Value := .agg (dv d).toArray
abbrev Dp.zero : Dp := fun _ => 0
def Dp.up (d : Dp) (k : Nat) (x : Int) : Dp := fun i => if i.val = k then x else d i
theorem dv_len (d : Dp) : (dv d).length = 7 := rfl
def Dp.g (d : Dp) (k : Nat) : Int := if h : k < 7 then d ⟨k, h⟩ else 0
theorem Dp.g_lt (d : Dp) {k : Nat} (h : k < 7) : d.g k = d ⟨k, h⟩ := by simp [Dp.g, h]
theorem Dp.g_fin (d : Dp) (i : Fin 7) : d i = d.g i.val := by simp [Dp.g]
theorem Dp.ext_g {d e : Dp} (h : ∀ k, k < 7 → d.g k = e.g k) : d = e := funext fun i => (d.g_fin i).trans ((h i.val i.isLt).trans (e.g_fin i).symm)
theorem Dp.up_g (d : Dp) (k j : Nat) (x : Int) : (Dp.up d k x).g j = if j = k ∧ j < 7 then x else d.g j := by
  unfold Dp.g Dp.up
  by_cases h : j < 7 <;> simp [h]
theorem dv_get (d : Dp) (k : Nat) (h : k < 7) : (dv d)[k]? = some (.int .i64 (d.g k)) := by
  match k, h with
  | 0, _ | 1, _ | 2, _ | 3, _ | 4, _ | 5, _ | 6, _ => rfl
theorem dv_set (d : Dp) (k : Nat) (x : Int) (h : k < 7) : (dv d).set k (.int .i64 x) = dv (Dp.up d k x) := by
  match k, h with
  | 0, _ | 1, _ | 2, _ | 3, _ | 4, _ | 5, _ | 6, _ => rfl
theorem dv_all (d : Dp) : (dv d).take 7 = dv d := rfl
theorem dv_one (d : Dp) : (dv d).all Value.oneCell' = true := rfl
theorem dp_mk (a b c d e f g : Int) : ∃ x : Dp, [Value.int .i64 a, .int .i64 b, .int .i64 c, .int .i64 d, .int .i64 e, .int .i64 f, .int .i64 g] = dv x :=
  ⟨fun i => match i with | 0 => a | 1 => b | 2 => c | 3 => d | 4 => e | 5 => f | 6 => g, rfl⟩
theorem dv_fa : Value.agg (List.toArray [Value.int .i64 0, .int .i64 0, .int .i64 0, .int .i64 0, .int .i64 0, .int .i64 0, .int .i64 0]) = .agg (dv Dp.zero).toArray := rfl
theorem dv_fl (ps : List (Nat × Nat)) (vs : List Value) : lay [Value.int .i64 0, .int .i64 0, .int .i64 0, .int .i64 0, .int .i64 0, .int .i64 0, .int .i64 0] ps vs = lay (dv Dp.zero) ps vs := rfl
theorem dv_fc (t : TypeId) (fr : Nat × Nat) : Obj.cells (List.toArray [Value.int .i64 0, .int .i64 0, .int .i64 0, .int .i64 0, .int .i64 0, .int .i64 0, .int .i64 0]) t fr = .cells (dv Dp.zero).toArray t fr := rfl
attribute [go_sem ↓] dv_fa dv_fl dv_fc
theorem dv_eq (d e : Dp) : leafEq [.i .i64, .i .i64, .i .i64, .i .i64, .i .i64, .i .i64, .i .i64] (dv d) (dv e) = some (decide (d = e)) := by
  simp only [dv, leafEq_cons, le1_i, leafEq_nil, Option.bind_some, Option.map_some, Bool.and_true]
  congr 1; rw [Bool.eq_iff_iff]
  simp only [Bool.and_eq_true, decide_eq_true_eq]
  constructor
  · rintro ⟨h0, h1, h2, h3, h4, h5, h6⟩
    funext i
    match i with
    | 0 => exact h0 | 1 => exact h1 | 2 => exact h2 | 3 => exact h3 | 4 => exact h4 | 5 => exact h5 | 6 => exact h6
  · rintro rfl; simp
theorem dv_lay_0 (c : Dp) : lay (dv c) [] [] = some (dv c) := rfl
theorem dv_lay_1 (c : Dp) (x : Int) : lay (dv c) [(0, 1)] [.int .i64 x] = some (dv (Dp.up c 0 x)) := rfl
theorem dv_lay_2 (c : Dp) (x y : Int) : lay (dv c) [(0, 1), (1, 1)] [.int .i64 x, .int .i64 y] = some (dv (Dp.up (Dp.up c 0 x) 1 y)) := rfl

theorem cons_get1 (x : Value) (l : List Value) (k : Nat) : (x :: l)[1 + k]? = l[k]? := by rw [Nat.add_comm]; rfl
theorem cons_set1 (x : Value) (l : List Value) (k : Nat) (v : Value) : (x :: l).set (1 + k) v = x :: l.set k v := by rw [Nat.add_comm]; rfl
attribute [go_sem] cons_get1 cons_set1
structure Att where
  seq : Int
  deps : Dp
  deriving DecidableEq
abbrev Att.zero : Att := ⟨0, Dp.zero⟩
def Att.cs (a : Att) : List Value := .int .i64 a.seq :: dv a.deps
abbrev Att.v (a : Att) : Value := .agg a.cs.toArray
theorem Att.len (a : Att) : a.cs.length = 8 := rfl
theorem Att.g0 (a : Att) : a.cs[0]? = some (.int .i64 a.seq) := rfl
theorem Att.g1 (a : Att) (k : Nat) (h : k < 7) : a.cs[1 + k]? = some (.int .i64 (a.deps.g k)) := by
  rw [Nat.add_comm]; exact dv_get _ k h
theorem Att.s0 (a : Att) (x : Int) : a.cs.set 0 (.int .i64 x) = ({ a with seq := x } : Att).cs := rfl
theorem Att.s1 (a : Att) (k : Nat) (x : Int) (h : k < 7) : a.cs.set (1 + k) (.int .i64 x) = ({ a with deps := Dp.up a.deps k x } : Att).cs := by
  rw [Nat.add_comm]; show _ :: (dv a.deps).set k _ = _; rw [dv_set _ _ _ h]; rfl
theorem Att.all (a : Att) : a.cs.take 8 = a.cs := rfl
theorem Att.sub (a : Att) : (a.cs.drop 1).take 7 = dv a.deps := rfl
theorem Att.put (a : Att) (d : Dp) : a.cs.take 1 ++ (dv d ++ a.cs.drop 8) = ({ a with deps := d } : Att).cs := rfl
theorem Att_fa : Value.agg (List.toArray [Value.int .i64 0, .int .i64 0, .int .i64 0, .int .i64 0, .int .i64 0, .int .i64 0, .int .i64 0, .int .i64 0]) = .agg (Att.zero.cs).toArray := rfl
theorem Att_fl (ps : List (Nat × Nat)) (vs : List Value) : lay [Value.int .i64 0, .int .i64 0, .int .i64 0, .int .i64 0, .int .i64 0, .int .i64 0, .int .i64 0, .int .i64 0] ps vs = lay (Att.zero.cs) ps vs := rfl
theorem Att_fc (t : TypeId) (fr : Nat × Nat) : Obj.cells (List.toArray [Value.int .i64 0, .int .i64 0, .int .i64 0, .int .i64 0, .int .i64 0, .int .i64 0, .int .i64 0, .int .i64 0]) t fr = .cells (Att.zero.cs).toArray t fr := rfl
attribute [go_sem ↓] Att_fa Att_fl Att_fc
theorem Att.one (a : Att) : a.cs.all Value.oneCell' = true := rfl
theorem Att.eq (a b : Att) : leafEq [.i .i64, .i .i64, .i .i64, .i .i64, .i .i64, .i .i64, .i .i64, .i .i64] a.cs b.cs = some (decide (a = b)) := by
  rw [Att.cs, Att.cs, leafEq_ii, dv_eq, Option.map_some]
  congr 1; rw [Bool.eq_iff_iff]; cases a; cases b; simp
theorem Att.layw (c d : Att) : lay c.cs [(0, 8)] [.agg d.cs.toArray] = some d.cs := rfl
attribute [go_sem] Att.layw
theorem Att.lay_0 (c : Att) : lay c.cs [] [] = some c.cs := rfl
theorem Att.lay0 (c : Att) (x : Int) : lay c.cs [(0, 1)] [.int .i64 x] = some ({ c with seq := x } : Att).cs := rfl
theorem Att.lay1 (c : Att) (d : Dp) : lay c.cs [(1, 7)] [.agg (dv d).toArray] = some ({ c with deps := d } : Att).cs := rfl
theorem Att.lay2 (c : Att) (x : Int) (d : Dp) : lay c.cs [(0, 1), (1, 7)] [.int .i64 x, .agg (dv d).toArray] = some (Att.mk x d).cs := rfl

structure Cel where
  st : Int
  pr : Int × Int
  vo : Int × Int
  cmd : Cmd
  att : Att
  same : Bool
  deriving DecidableEq
abbrev Cel.zero : Cel := ⟨0, (0, 0), (0, 0), Cmd.zero, Att.zero, false⟩
def Cel.cs (c : Cel) : List Value := .int .i64 c.st :: (pc c.pr ++ (pc c.vo ++ (c.cmd.cs ++ (c.att.cs ++ [.bool c.same]))))
abbrev Cel.v (c : Cel) : Value := .agg c.cs.toArray
theorem Cel.len (c : Cel) : c.cs.length = 21 := rfl
theorem Cel.g0 (c : Cel) : c.cs[0]? = some (.int .i64 c.st) := rfl
theorem Cel.g1 (c : Cel) : c.cs[1]? = some (.int .i64 c.pr.1) := rfl
theorem Cel.g2 (c : Cel) : c.cs[2]? = some (.int .i64 c.pr.2) := rfl
theorem Cel.g3 (c : Cel) : c.cs[3]? = some (.int .i64 c.vo.1) := rfl
theorem Cel.g4 (c : Cel) : c.cs[4]? = some (.int .i64 c.vo.2) := rfl
theorem Cel.g5 (c : Cel) : c.cs[5]? = some (.int .i64 c.cmd.kind) := rfl
theorem Cel.g6 (c : Cel) : c.cs[6]? = some (.int .i64 c.cmd.client) := rfl
theorem Cel.g7 (c : Cel) : c.cs[7]? = some (.int .i64 c.cmd.seq) := rfl
theorem Cel.g8 (c : Cel) : c.cs[8]? = some (.string c.cmd.key) := rfl
theorem Cel.g9 (c : Cel) : c.cs[9]? = some (.string c.cmd.fin) := rfl
theorem Cel.g10 (c : Cel) : c.cs[10]? = some (.string c.cmd.old) := rfl
theorem Cel.g11 (c : Cel) : c.cs[11]? = some (.string c.cmd.val) := rfl
theorem Cel.g12 (c : Cel) : c.cs[12]? = some (.int .i64 c.att.seq) := rfl
theorem Cel.g20 (c : Cel) : c.cs[20]? = some (.bool c.same) := rfl
theorem Cel.all (c : Cel) : c.cs.take 21 = c.cs := rfl
theorem Cel.sub_pr (c : Cel) : (c.cs.drop 1).take 2 = pc c.pr := rfl
theorem Cel.sub_vo (c : Cel) : (c.cs.drop 3).take 2 = pc c.vo := rfl
theorem Cel.sub_cmd (c : Cel) : (c.cs.drop 5).take 7 = c.cmd.cs := rfl
theorem Cel.sub_att (c : Cel) : (c.cs.drop 12).take 8 = c.att.cs := rfl
theorem Cel.sub_deps (c : Cel) : (c.cs.drop 13).take 7 = dv c.att.deps := rfl
theorem Cel.s0 (c : Cel) (x : Int) : c.cs.set 0 (.int .i64 x) = ({ c with st := x } : Cel).cs := rfl
theorem Cel.s20 (c : Cel) (x : Bool) : c.cs.set 20 (.bool x) = ({ c with same := x } : Cel).cs := rfl
theorem Cel.put_pr (c : Cel) (p : Int × Int) : c.cs.take 1 ++ (pc p ++ c.cs.drop 3) = ({ c with pr := p } : Cel).cs := rfl
theorem Cel.put_vo (c : Cel) (p : Int × Int) : c.cs.take 3 ++ (pc p ++ c.cs.drop 5) = ({ c with vo := p } : Cel).cs := rfl
theorem Cel.put_cmd (c : Cel) (p : Cmd) : c.cs.take 5 ++ (p.cs ++ c.cs.drop 12) = ({ c with cmd := p } : Cel).cs := rfl
theorem Cel.put_att (c : Cel) (p : Att) : c.cs.take 12 ++ (p.cs ++ c.cs.drop 20) = ({ c with att := p } : Cel).cs := rfl
theorem Cel.one (c : Cel) : c.cs.all Value.oneCell' = true := rfl
theorem Cel_fa : Value.agg (List.toArray [Value.int .i64 0, .int .i64 0, .int .i64 0, .int .i64 0, .int .i64 0, .int .i64 0, .int .i64 0, .int .i64 0, .string noB, .string noB, .string noB, .string noB, .int .i64 0, .int .i64 0, .int .i64 0, .int .i64 0, .int .i64 0, .int .i64 0, .int .i64 0, .int .i64 0, .bool false]) = .agg (Cel.zero.cs).toArray := rfl
theorem Cel_fl (ps : List (Nat × Nat)) (vs : List Value) : lay [Value.int .i64 0, .int .i64 0, .int .i64 0, .int .i64 0, .int .i64 0, .int .i64 0, .int .i64 0, .int .i64 0, .string noB, .string noB, .string noB, .string noB, .int .i64 0, .int .i64 0, .int .i64 0, .int .i64 0, .int .i64 0, .int .i64 0, .int .i64 0, .int .i64 0, .bool false] ps vs = lay (Cel.zero.cs) ps vs := rfl
theorem Cel_fc (t : TypeId) (fr : Nat × Nat) : Obj.cells (List.toArray [Value.int .i64 0, .int .i64 0, .int .i64 0, .int .i64 0, .int .i64 0, .int .i64 0, .int .i64 0, .int .i64 0, .string noB, .string noB, .string noB, .string noB, .int .i64 0, .int .i64 0, .int .i64 0, .int .i64 0, .int .i64 0, .int .i64 0, .int .i64 0, .int .i64 0, .bool false]) t fr = .cells (Cel.zero.cs).toArray t fr := rfl
attribute [go_sem ↓] Cel_fa Cel_fl Cel_fc
theorem Cel.layw (c d : Cel) : lay c.cs [(0, 21)] [.agg d.cs.toArray] = some d.cs := rfl
attribute [go_sem] Cel.layw
theorem Cel.lay_0 (c : Cel) : lay c.cs [] [] = some c.cs := rfl
theorem Cel.lay0 (c : Cel) (x : Int) : lay c.cs [(0, 1)] [.int .i64 x] = some ({ c with st := x } : Cel).cs := rfl
theorem Cel.lay_pr (c : Cel) (p : Int × Int) : lay c.cs [(1, 2)] [.agg (pc p).toArray] = some ({ c with pr := p } : Cel).cs := rfl
theorem leafEq_app : ∀ (k1 : List LK) {k2 : List LK} {x1 y1 x2 y2 : List Value} {r : Bool}, leafEq k1 x1 y1 = some r → leafEq (k1 ++ k2) (x1 ++ x2) (y1 ++ y2) = (leafEq k2 x2 y2).map fun s => r && s
  | [], k2, [], [], x2, y2, r, h => by
    simp only [leafEq, Option.some.injEq] at h; subst h
    simp
  | k :: ks, k2, x :: xs, y :: ys, x2, y2, r, h => by
    rw [leafEq_cons] at h
    obtain ⟨b, hb, h⟩ := Option.bind_eq_some_iff.1 h
    obtain ⟨s, hs, rfl⟩ := Option.map_eq_some_iff.1 h
    rw [List.cons_append, List.cons_append, List.cons_append, leafEq_cons, hb, Option.bind_some, leafEq_app ks hs, Option.map_map]
    congr 1; funext q; simp [Bool.and_assoc]
  | [], _, [], _ :: _, _, _, _, h | [], _, _ :: _, [], _, _, _, h | [], _, _ :: _, _ :: _, _, _, _, h | _ :: _, _, [], [], _, _, _, h | _ :: _, _, [], _ :: _, _, _, _, h | _ :: _, _, _ :: _, [], _, _, _, h => by simp [leafEq] at h
theorem Cel.eq (c d : Cel) : leafEq [.i .i64, .i .i64, .i .i64, .i .i64, .i .i64, .i .i64, .i .i64, .i .i64, .s, .s, .s, .s, .i .i64, .i .i64, .i .i64, .i .i64, .i .i64, .i .i64, .i .i64, .i .i64, .b] c.cs d.cs = some (decide (c = d)) := by
  rw [Cel.cs, Cel.cs, leafEq_ii]
  have h5 : leafEq [.b] [.bool c.same] [.bool d.same] = some (decide (c.same = d.same)) := by rw [leafEq_cons, le1_b]; simp [leafEq_nil]
  have h4 := leafEq_app (k2 := [.b]) (x2 := [.bool c.same]) (y2 := [.bool d.same]) _ (Att.eq c.att d.att)
  rw [h5, Option.map_some] at h4
  have h3 := leafEq_app (k2 := [.i .i64, .i .i64, .i .i64, .i .i64, .i .i64, .i .i64, .i .i64, .i .i64, .b]) (x2 := c.att.cs ++ [.bool c.same]) (y2 := d.att.cs ++ [.bool d.same]) _ (Cmd.eq c.cmd d.cmd)
  rw [show leafEq [.i .i64, .i .i64, .i .i64, .i .i64, .i .i64, .i .i64, .i .i64, .i .i64, .b] _ _ = _ from h4, Option.map_some] at h3
  have h2 := leafEq_app (k2 := [.i .i64, .i .i64, .i .i64, .s, .s, .s, .s, .i .i64, .i .i64, .i .i64, .i .i64, .i .i64, .i .i64, .i .i64, .i .i64, .b]) (x2 := c.cmd.cs ++ (c.att.cs ++ [.bool c.same])) (y2 := d.cmd.cs ++ (d.att.cs ++ [.bool d.same])) _ (pc_eq c.vo d.vo)
  rw [show leafEq [.i .i64, .i .i64, .i .i64, .s, .s, .s, .s, .i .i64, .i .i64, .i .i64, .i .i64, .i .i64, .i .i64, .i .i64, .i .i64, .b] _ _ = _ from h3, Option.map_some] at h2
  have h1 := leafEq_app (k2 := [.i .i64, .i .i64, .i .i64, .i .i64, .i .i64, .s, .s, .s, .s, .i .i64, .i .i64, .i .i64, .i .i64, .i .i64, .i .i64, .i .i64, .i .i64, .b]) (x2 := pc c.vo ++ (c.cmd.cs ++ (c.att.cs ++ [.bool c.same]))) (y2 := pc d.vo ++ (d.cmd.cs ++ (d.att.cs ++ [.bool d.same]))) _ (pc_eq c.pr d.pr)
  rw [show leafEq [.i .i64, .i .i64, .i .i64, .i .i64, .i .i64, .s, .s, .s, .s, .i .i64, .i .i64, .i .i64, .i .i64, .i .i64, .i .i64, .i .i64, .i .i64, .b] _ _ = _ from h2, Option.map_some] at h1
  rw [show leafEq [.i .i64, .i .i64, .i .i64, .i .i64, .i .i64, .i .i64, .i .i64, .s, .s, .s, .s, .i .i64, .i .i64, .i .i64, .i .i64, .i .i64, .i .i64, .i .i64, .i .i64, .b] _ _ = _ from h1, Option.map_some]
  congr 1; rw [Bool.eq_iff_iff]; cases c; cases d; simp [and_assoc]
theorem lenz_ba (s : ByteArray) : (Value.string s) = .string s := rfl
attribute [go_sem] pc_len pc_0 pc_1 pc_s0 pc_s1 pc_take pc_lay2 pc_lay0 pc_lay1 pc_eq pc_one
attribute [go_sem] Cmd.len Cmd.g0 Cmd.g1 Cmd.g2 Cmd.g3 Cmd.g4 Cmd.g5 Cmd.g6 Cmd.s0 Cmd.s1 Cmd.s2 Cmd.s3 Cmd.s4 Cmd.s5 Cmd.s6 Cmd.all Cmd.one Cmd.eq Cmd.lay0 Cmd.lay4 Cmd.lay_0
attribute [go_sem] dv_len dv_get dv_set dv_all dv_one dv_eq dv_lay_0 dv_lay_1 dv_lay_2
attribute [go_sem] Att.len Att.g0 Att.g1 Att.s0 Att.s1 Att.all Att.sub Att.put Att.one Att.eq Att.lay_0 Att.lay0 Att.lay1 Att.lay2
attribute [go_sem] Cel.len Cel.g0 Cel.g1 Cel.g2 Cel.g3 Cel.g4 Cel.g5 Cel.g6 Cel.g7 Cel.g8 Cel.g9 Cel.g10 Cel.g11 Cel.g12 Cel.g20 Cel.all Cel.sub_pr Cel.sub_vo Cel.sub_cmd Cel.sub_att Cel.sub_deps Cel.s0 Cel.s20 Cel.put_pr Cel.put_vo Cel.put_cmd Cel.put_att Cel.one Cel.eq Cel.lay_0 Cel.lay0 Cel.lay_pr
attribute [go_sem] List.append_assoc Nat.reduceAdd Nat.reduceSub Nat.reduceLeDiff
end Go.Fw
