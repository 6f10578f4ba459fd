import Derived.Orders
import Derived.Tactics
import Derived.Laws.Sem
import Derived.Laws.World
import Derived.Laws.Entries
import GoSem.Dispatch
import GoSem.Op.String
import Derived.Laws.Externs
import Derived.ChangeKeysEq
import Derived.Laws.StructEq
import Derived.LaidEql
set_option linter.unusedVariables false
set_option linter.unusedSimpArgs false
/-! Memory as a function of blocks; what an operation does, on values. -/
namespace Go.Fw
abbrev Mem := Nat → Option Obj
def absM (w : World) : Mem := fun b => w.heap[b]?
def Mem.set (m : Mem) (b : Nat) (o : Obj) : Mem := fun x => if x = b then some o else m x
structure Side (w w' : World) : Prop where
  os : w'.os = w.os
  out : w'.output = w.output
  size : w.heap.size ≤ w'.heap.size
  tape : w'.tape = w.tape
theorem Side.rfl' (w : World) : Side w w := ⟨rfl, rfl, Nat.le_refl _, rfl⟩
theorem Side.trans {a b c : World} (h : Side a b) (g : Side b c) : Side a c := ⟨g.os.trans h.os, g.out.trans h.out, Nat.le_trans h.size g.size, g.tape.trans h.tape⟩
/-- The contract of a function. -/
def MC (P : Program) (f : Nat) (args : List Value) (m : Mem) (R : Value → Mem → Prop) : Prop :=
  ∀ w, absM w = m → Calls P f args.toArray w fun e w' => ∃ v, e = .returned v ∧ Side w w' ∧ R v (absM w')
def callable (P : Program) (g : Nat) : Bool := match P.funcs[g]? with | some fn => fn.body.isSome && fn.name != "runtime.NumGoroutine" | none => false
theorem MC.mono {P : Program} {f : Nat} {args : List Value} {m : Mem} {R R' : Value → Mem → Prop} (h : MC P f args m R) (hr : ∀ v m', R v m' → R' v m') : MC P f args m R' :=
  fun w hw => (h w hw).mono fun _ _ ⟨v, he, hs, hR⟩ => ⟨v, he, hs, hr _ _ hR⟩
def cell (m : Mem) (a : Addr) : Option Value :=
  match m a.block with
  | some (.cells c _ _) => if a.spot.isSome then none else c[a.off]?
  | _ => none
theorem cell_abs (w : World) (a : Addr) : cell (absM w) a = w.cell? a := rfl
/-- One cell is written. -/
def putC (m : Mem) (a : Addr) (v : Value) : Option Mem :=
  match m a.block with
  | some (.cells c t fr) => if a.spot.isSome || !(a.off < c.size) || (fr.1 ≤ a.off && a.off < fr.2) then none else some (m.set a.block (.cells (c.setIfInBounds a.off v) t fr))
  | _ => none
def ldCells (m : Mem) (a : Addr) : Nat → Nat → Option (List Value)
  | _, 0 => some []
  | i, n + 1 => (cell m (a.add i)).bind fun v => (ldCells m a (i + 1) n).map (v :: ·)
def stCells (m : Mem) (a : Addr) : Nat → List Value → Option Mem
  | _, [] => some m
  | i, v :: r => if v.oneCell' then (putC m (a.add i) v).bind fun m' => stCells m' a (i + 1) r else none
/-! ### what is held against what: leaves -/
inductive LK where
  | b | i (k : IntKind) | s
  deriving Inhabited, DecidableEq
def le1 : LK → Value → Value → Option Bool
  | .b, .bool a, .bool b => some (a == b)
  | .i k, .int k1 a, .int k2 b => if k1 = k ∧ k2 = k then some (a == b) else none
  | .s, .string a, .string b => some (a.data.toList == b.data.toList)
  | _, _, _ => none
def leafEq : List LK → List Value → List Value → Option Bool
  | [], [], [] => some true
  | k :: ks, x :: xs, y :: ys => (le1 k x y).bind fun b => (leafEq ks xs ys).map (b && ·)
  | _, _, _ => none
/-! ### the operations, resolved -/
inductive RO where
  | bad | zid
  | mv | pick | nilck
  | fld (off : Nat)
  | ixs (size : Nat) | ixa (len size : Nat)
  | ld | lda (n : Nat)
  | prt (off : Nat) | prta (off n : Nat)
  | idx (len size : Nat) | idxa (len size : Nat) | idxs
  | bld (zero : List Value) (places : List (Nat × Nat))
  | ext (i : Nat)
  | iar (op : BinOp) | idv (op : BinOp) | ibt (op : BinOp) | ish (op : BinOp) | icm (op : BinOp)
  | beq (ng : Bool) | str (op : BinOp) | eqp (ng : Bool) | eqs (ng : Bool) | eqm (ng : Bool) | eqc (ng : Bool) (ks : List LK)
  | not | neg | cpl
  | conv (k : IntKind)
  | slc (size : Nat) (lo hi : Bool) | slc3 (size : Nat) (lo : Bool) | slcs (lo hi : Bool) | sla (len size : Nat) (lo hi : Bool)
  | len | lenz | lenk (n : Nat) | lenm | cap
  | mn | mx
  | mkf (fn : Fn) (nfirst : Nat) | mki (t : TypeId)
  | lkp (ag : Bool) (ks : List LK) (zero : Value) (ok : Bool)
  | b2s
  | st (n : Nat)
  | alc (zero : List Value) (t : TypeId) | box (t : TypeId)
  | bsl (t : TypeId) (len : Nat) (zero : List Value) (places : List (Nat × Nat))
  | mks (t : TypeId) (bytes : Nat) (zero : List Value)
  | app (t : TypeId) (size bytes : Nat) (zero : List Value)
  | apps (t : TypeId)
  | cpy (size : Nat)
  | mkm
  | mup (ag : Bool) (ks : List LK)
  | dlt (ag : Bool) (ks : List LK)
  | clr (zero : List Value) | clrm
  | rng | nxt | ent
  | s2b (t : TypeId)
  | eqi (ng : Bool) | ixb | eqq (ng : Bool)
  | p2u | u2p (u : TypeId) (n : Nat) | usd | cnt | mnz (t : TypeId) | ust (t : TypeId)
  | appn (t : TypeId) (size bytes : Nat) (zero : List Value)
  | mrk
  | call (f : Nat)
  | callv
  deriving Inhabited
/-- Does it neither write nor make memory? -/
def RO.quiet : RO → Bool
  | .bad | .st _ | .alc .. | .box _ | .bsl .. | .mks .. | .app .. | .apps _ | .cpy _ | .mkm | .mup .. | .dlt .. | .clr .. | .clrm | .rng | .nxt | .s2b _ | .appn .. | .mrk | .mnz _ | .ust _ | .call _ | .callv => false
  | _ => true
/-- Does what it yields hang on memory? -/
def RO.reads : RO → Bool
  | .ld | .lda _ | .lenm | .lkp .. | .b2s | .ent | .eqi _ | .ixb | .eqq _ | .p2u | .u2p .. | .usd | .cnt => true
  | _ => false
def cutB (s : ByteArray) (lo hi : Int) : Option ByteArray := if 0 ≤ lo ∧ lo ≤ hi ∧ hi ≤ s.size then some (s.extract lo.toNat hi.toNat) else none
def cutS (size : Nat) (a : Option Addr) (cap : Nat) (lo hi : Int) : Option Value :=
  if 0 ≤ lo ∧ lo ≤ hi ∧ hi ≤ cap then some (.slice (if cap = lo.toNat then a else a.map (·.add (lo.toNat * size))) (hi.toNat - lo.toNat) (cap - lo.toNat)) else none
/-- a value's cells -/
def vcl : Value → List Value
  | .agg cs => cs.toList
  | v => [v]
theorem vcl_eq (v : Value) : vcl v = v.cells.toList := by cases v <;> rfl
/-- cells laid over others, from a place on -/
def spl : Nat → List Value → List Value → Option (List Value)
  | 0, [], cs => some cs
  | 0, v :: vs, _ :: cs => (spl 0 vs cs).map (v :: ·)
  | n + 1, vs, c :: cs => (spl n vs cs).map (c :: ·)
  | _, _, _ => none
/-- a build's parts laid into its cells -/
def lay (cells : List Value) : List (Nat × Nat) → List Value → Option (List Value)
  | [], [] => some cells
  | (off, size) :: ps, v :: vs => if (vcl v).length = size then (spl off (vcl v) cells).bind fun cs => lay cs ps vs else none
  | _, _ => none
/-- what a slice's first elements are -/
def ldS (m : Mem) (a : Option Addr) (n : Nat) : Option (List Value) := match a with | some a => ldCells m a 0 n | none => some []
/-! readers of values -/
def i2 (f : IntKind → Int → Int → Option Value) : Value → Value → Option Value
  | .int k a, .int k' b => if k = k' then f k a b else none
  | _, _ => none
def j2 (f : IntKind → Int → Int → Option Value) : Value → Value → Option Value
  | .int k a, .int _ b => f k a b
  | _, _ => none
def i1 (f : IntKind → Int → Option Value) : Value → Option Value
  | .int k a => f k a
  | _ => none
def b2 (f : Bool → Bool → Option Value) : Value → Value → Option Value
  | .bool a, .bool b => f a b
  | _, _ => none
def b1 (f : Bool → Option Value) : Value → Option Value
  | .bool a => f a
  | _ => none
def p1 (f : Addr → Option Value) : Value → Option Value
  | .pointer (some a) => f a
  | _ => none
def g1 (f : Array Value → Option Value) : Value → Option Value
  | .agg cs => f cs
  | _ => none
def t1 (f : Array Value → Option Value) : Value → Option Value
  | .tuple cs => f cs
  | _ => none
def s1 (f : Option Addr → Nat → Nat → Option Value) : Value → Option Value
  | .slice a n c => f a n c
  | _ => none
def z1 (f : ByteArray → Option Value) : Value → Option Value
  | .string s => f s
  | _ => none
def z2 (f : ByteArray → ByteArray → Option Value) : Value → Value → Option Value
  | .string s, .string u => f s u
  | _, _ => none
def eqp (ng : Bool) : Value → Value → Option Value
  | .pointer a, .pointer none => some (.bool (if ng then a.isSome else a.isNone))
  | _, _ => none
/-- a block of which no string has a share -/
def plainB (m : Mem) (b : Nat) : Bool := match m b with
  | some (.cells _ _ (0, 0)) => true
  | _ => false
def eqQ (m : Mem) (ng : Bool) : Value → Value → Option Value
  | .pointer a, .pointer none => some (.bool (if ng then a.isSome else a.isNone))
  | .pointer none, .pointer (some _) => some (.bool ng)
  | .pointer (some a), .pointer (some b) => if a.block = b.block then some (.bool (if ng then !(a == b) else a == b)) else if plainB m a.block && plainB m b.block then some (.bool ng) else none
  | _, _ => none
def eqs (ng : Bool) : Value → Value → Option Value
  | .slice a _ _, .slice none _ _ => some (.bool (if ng then a.isSome else a.isNone))
  | _, _ => none
def eqm (ng : Bool) : Value → Value → Option Value
  | .map a, .map none => some (.bool (if ng then a.isSome else a.isNone))
  | _, _ => none
/-- the lesser, the greater -/
def mn2 : Value → Value → Option Value
  | .int k a, .int k' b => if k = k' then some (.int k (if b < a then b else a)) else none
  | .string a, .string b => some (.string (if Op.bytesLess a.data.toList b.data.toList || a.data.toList == b.data.toList then a else b))
  | _, _ => none
def mx2 : Value → Value → Option Value
  | .int k a, .int k' b => if k = k' then some (.int k (if a < b then b else a)) else none
  | _, _ => none
def fold2 (f : Value → Value → Option Value) : Value → List Value → Option Value
  | v, [] => some v
  | v, x :: r => (f v x).bind fun u => fold2 f u r
def cutA (size : Nat) (a : Addr) (cap : Nat) (lo hi : Int) : Option Value :=
  if 0 ≤ lo ∧ lo ≤ hi ∧ hi ≤ cap then some (.slice (some (if cap = lo.toNat then a else a.add (lo.toNat * size))) (hi.toNat - lo.toNat) (cap - lo.toNat)) else none
def cut3 (size : Nat) (a : Option Addr) (cap : Nat) (lo hi mx : Int) : Option Value :=
  if 0 ≤ lo ∧ lo ≤ hi ∧ hi ≤ mx ∧ mx ≤ cap then some (.slice (if mx.toNat = lo.toNat then a else a.map (·.add (lo.toNat * size))) (hi.toNat - lo.toNat) (mx.toNat - lo.toNat)) else none
def cutZ (s : ByteArray) (lo hi : Int) : Option Value := (cutB s lo hi).map .string
def ixB (x y : Value) : Option Value := match x, y with | .string s, .int .u8 c => some (.int .i64 (firstIdx s c.toNat.toUInt8)) | _, _ => none
theorem ixB_inv {x y v : Value} (h : ixB x y = some v) : ∃ s c, x = .string s ∧ y = .int .u8 c ∧ v = .int .i64 (firstIdx s c.toNat.toUInt8) := by
  unfold ixB at h
  split at h
  · exact ⟨_, _, rfl, rfl, by simpa using h.symm⟩
  · cases h
def eqI (ng : Bool) (x y : Value) : Option Value := match x, y with | .nilIface, .nilIface => some (.bool (!ng)) | .iface _ _, .nilIface => some (.bool ng) | _, _ => none
theorem eqI_inv {ng : Bool} {x y v : Value} (h : eqI ng x y = some v) : y = .nilIface ∧ ((x = .nilIface ∧ v = .bool (!ng)) ∨ ((∃ t u, x = .iface t u) ∧ v = .bool ng)) := by
  unfold eqI at h
  split at h
  · exact ⟨rfl, .inl ⟨rfl, by simpa using h.symm⟩⟩
  · exact ⟨rfl, .inr ⟨⟨_, _, rfl⟩, by simpa using h.symm⟩⟩
  · cases h
/-- a pointer into a row of cells, as a plain one -/
def toU (m : Mem) : Value → Option Value
  | .pointer (some a) => (match m a.block with
    | some (.cells arr _ _) => if a.off < arr.size then some (.pointer (some a)) else none
    | _ => none)
  | _ => none
/-- .. and back, to a block of just that type -/
def ofU (m : Mem) (u : TypeId) (n : Nat) : Value → Option Value
  | .pointer (some a) => (match m a.block with
    | some (.cells arr t _) => if t = u ∧ a.off = 0 ∧ n ≤ arr.size then some (.pointer (some a)) else none
    | _ => none)
  | _ => none
/-- how often a byte stands in a string -/
def cntB : Value → Value → Option Value
  | .string s, .int .u8 c => some (.int .i64 (s.foldl (fun (n : Int) x => if x == c.toNat.toUInt8 then n + 1 else n) ((0 : Nat) : Int)))
  | _, _ => none
def datS : Value → Option Value
  | .slice none _ _ => some (.pointer none)
  | .slice (some a) _ c => if c = 0 then none else some (.pointer (some a))
  | _ => none
def rdp (ro : RO) (args : List Value) : Option Value :=
  match ro, args with
  | .mv, [v] => some v
  | .pick, [c, a, b] => b1 (fun c => some (if c then a else b)) c
  | .nilck, [x] => p1 (fun a => some (.pointer (some a))) x
  | .fld off, [x] => p1 (fun a => some (.pointer (some (a.add off)))) x
  | .ixs size, [x, i] => s1 (fun a len _ => i1 (fun _ i => if 0 ≤ i ∧ i < len then a.map fun a => .pointer (some (a.add (i.toNat * size))) else none) i) x
  | .ixa len size, [x, i] => p1 (fun a => i1 (fun _ i => if 0 ≤ i ∧ i < len then some (.pointer (some (a.add (i.toNat * size)))) else none) i) x
  | .prt off, [x] => g1 (fun cs => cs[off]?) x
  | .prta off n, [x] => g1 (fun cs => some (.agg (cs.extract off (off + n)))) x
  | .idx len size, [x, i] => g1 (fun cs => i1 (fun _ i => if 0 ≤ i ∧ i < len then cs[i.toNat * size]? else none) i) x
  | .idxa len size, [x, i] => g1 (fun cs => i1 (fun _ i => if 0 ≤ i ∧ i < len then some (.agg (cs.extract (i.toNat * size) (i.toNat * size + size))) else none) i) x
  | .idxs, [x, i] => z1 (fun s => i1 (fun _ i => if 0 ≤ i then (s[i.toNat]?).map fun b => .int .u8 b.toNat else none) i) x
  | .bld zero places, vs => (lay zero places vs).map fun l => .agg l.toArray
  | .ext i, [x] => t1 (fun vs => vs[i]?) x
  | .iar .add, [x, y] => i2 (fun k a b => some (.int k (k.wrap (a + b)))) x y
  | .iar .sub, [x, y] => i2 (fun k a b => some (.int k (k.wrap (a - b)))) x y
  | .iar .mul, [x, y] => i2 (fun k a b => some (.int k (k.wrap (a * b)))) x y
  | .idv .quo, [x, y] => i2 (fun k a b => if b = 0 then none else some (.int k (k.wrap (a.tdiv b)))) x y
  | .idv .rem, [x, y] => i2 (fun k a b => if b = 0 then none else some (.int k (a.tmod b))) x y
  | .ibt .and, [x, y] => i2 (fun k a b => some (.int k (k.wrap (BitVec.ofInt k.bits a &&& BitVec.ofInt k.bits b).toNat))) x y
  | .ibt .or, [x, y] => i2 (fun k a b => some (.int k (k.wrap (BitVec.ofInt k.bits a ||| BitVec.ofInt k.bits b).toNat))) x y
  | .ibt .xor, [x, y] => i2 (fun k a b => some (.int k (k.wrap (BitVec.ofInt k.bits a ^^^ BitVec.ofInt k.bits b).toNat))) x y
  | .ish .shl, [x, y] => j2 (fun k a b => if b < 0 then none else some (.int k (k.wrap (a * 2 ^ min b.toNat k.bits)))) x y
  | .ish .shr, [x, y] => j2 (fun k a b => if b < 0 then none else some (.int k (a.fdiv (2 ^ min b.toNat k.bits)))) x y
  | .icm .eql, [x, y] => i2 (fun _ a b => some (.bool (a == b))) x y
  | .icm .neq, [x, y] => i2 (fun _ a b => some (.bool (a != b))) x y
  | .icm .lss, [x, y] => i2 (fun _ a b => some (.bool (a < b))) x y
  | .icm .leq, [x, y] => i2 (fun _ a b => some (.bool (a ≤ b))) x y
  | .icm .gtr, [x, y] => i2 (fun _ a b => some (.bool (b < a))) x y
  | .icm .geq, [x, y] => i2 (fun _ a b => some (.bool (b ≤ a))) x y
  | .beq ng, [x, y] => b2 (fun a b => some (.bool (if ng then a != b else a == b))) x y
  | .str .add, [x, y] => z2 (fun a b => if a.size + b.size ≤ 9223372036854775807 then some (.string (a ++ b)) else none) x y
  | .str .eql, [x, y] => z2 (fun a b => some (.bool (a.data.toList == b.data.toList))) x y
  | .str .neq, [x, y] => z2 (fun a b => some (.bool !(a.data.toList == b.data.toList))) x y
  | .str .lss, [x, y] => z2 (fun a b => some (.bool (Op.bytesLess a.data.toList b.data.toList))) x y
  | .str .leq, [x, y] => z2 (fun a b => some (.bool (Op.bytesLess a.data.toList b.data.toList || a.data.toList == b.data.toList))) x y
  | .str .gtr, [x, y] => z2 (fun a b => some (.bool !(Op.bytesLess a.data.toList b.data.toList || a.data.toList == b.data.toList))) x y
  | .str .geq, [x, y] => z2 (fun a b => some (.bool !(Op.bytesLess a.data.toList b.data.toList))) x y
  | .eqc ng ks, [x, y] => g1 (fun xs => g1 (fun ys => (leafEq ks xs.toList ys.toList).map fun b => .bool (if ng then !b else b)) y) x
  | .eqm ng, [x, y] => eqm ng x y
  | .zid, [x] => z1 (fun s => some (.string s)) x
  | .cpl, [x] => i1 (fun k n => some (.int k (k.wrap (BitVec.ofInt k.bits (if k.signed then -1 else k.max) ^^^ BitVec.ofInt k.bits n).toNat))) x
  | .eqp ng, [x, y] => eqp ng x y
  | .eqs ng, [x, y] => eqs ng x y
  | .not, [x] => b1 (fun b => some (.bool !b)) x
  | .neg, [x] => i1 (fun k n => some (.int k (k.wrap (0 - n)))) x
  | .conv k, [x] => i1 (fun _ n => some (.int k (k.wrap n))) x
  | .slc size false false, [x] => s1 (fun a n cap => cutS size a cap 0 n) x
  | .slc size true false, [x, lo] => s1 (fun a n cap => i1 (fun _ lo => cutS size a cap lo n) lo) x
  | .slc size false true, [x, hi] => s1 (fun a _ cap => i1 (fun _ hi => cutS size a cap 0 hi) hi) x
  | .slc size true true, [x, lo, hi] => s1 (fun a _ cap => j2 (fun _ lo hi => cutS size a cap lo hi) lo hi) x
  | .len, [x] => s1 (fun _ n _ => some (.int .i64 n)) x
  | .lenz, [x] => z1 (fun s => some (.int .i64 s.size)) x
  | .lenk n, [_] => some (.int .i64 n)
  | .cap, [x] => s1 (fun _ _ c => some (.int .i64 c)) x
  | .slc3 size false, [x, hi, mx] => s1 (fun a _ cap => j2 (fun _ hi mx => cut3 size a cap 0 hi mx) hi mx) x
  | .slc3 size true, [x, lo, hi, mx] => s1 (fun a _ cap => i1 (fun _ lo => j2 (fun _ hi mx => cut3 size a cap lo hi mx) hi mx) lo) x
  | .slcs false false, [x] => z1 (fun s => cutZ s 0 s.size) x
  | .slcs true false, [x, lo] => z1 (fun s => i1 (fun _ lo => cutZ s lo s.size) lo) x
  | .slcs false true, [x, hi] => z1 (fun s => i1 (fun _ hi => cutZ s 0 hi) hi) x
  | .slcs true true, [x, lo, hi] => z1 (fun s => j2 (fun _ lo hi => cutZ s lo hi) lo hi) x
  | .sla n size false false, [x] => p1 (fun a => cutA size a n 0 n) x
  | .sla n size true false, [x, lo] => p1 (fun a => i1 (fun _ lo => cutA size a n lo n) lo) x
  | .sla n size false true, [x, hi] => p1 (fun a => i1 (fun _ hi => cutA size a n 0 hi) hi) x
  | .sla n size true true, [x, lo, hi] => p1 (fun a => j2 (fun _ lo hi => cutA size a n lo hi) lo hi) x
  | .mn, x :: r => fold2 mn2 x r
  | .mx, x :: r => fold2 mx2 x r
  | .mkf fn n, vs => some (.func fn (vs.take n).toArray (vs.drop n).toArray)
  | .mki t, [v] => some (.iface t v)
  | _, _ => none
/-- does a key fit? -/
def keyFit (ag : Bool) : Value → Bool
  | .agg _ => ag
  | .tuple _ => false
  | _ => !ag
def keyOk (ag : Bool) (ks : List LK) (k : Value) : Bool := keyFit ag k && (leafEq ks (vcl k) (vcl k)).isSome
def findE (ag : Bool) (ks : List LK) (k : Value) : List MapEntry → Nat → Option (Option (Nat × Value))
  | [], _ => some none
  | e :: es, i => if keyFit ag e.key then (leafEq ks (vcl k) (vcl e.key)).bind fun b => if b then some (some (i, e.val)) else findE ag ks k es (i + 1) else none
def entriesOf (m : Mem) : Value → Option (Array MapEntry)
  | .map none => some #[]
  | .map (some r) => match m r with | some (.map es _) => some es | _ => none
  | _ => none
/-- the entry that an iterator stands at -/
def entRead (m : Mem) (a : Addr) : Option Value :=
  if a.off = 0 then
    match m a.block with
    | some (.mapIter (some b) _ seen last) =>
      match seen.back? with
      | some stamp =>
        match m b with
        | some (.map es clock) => if clock = last then (es.find? (·.born == stamp)).map fun e => .tuple #[e.key, e.val] else none
        | _ => none
      | none => none
    | _ => none
  else none
def bytesIn : List Value → Option (List UInt8)
  | [] => some []
  | .int .u8 n :: r => (bytesIn r).map (UInt8.ofNat n.toNat :: ·)
  | _ => none
def rdm (ro : RO) (args : List Value) (m : Mem) : Option Value :=
  match ro, args with
  | .eqi ng, [x, y] => eqI ng x y
  | .eqq ng, [x, y] => eqQ m ng x y
  | .ixb, [x, y] => ixB x y
  | .usd, [x] => datS x
  | .cnt, [x, y] => cntB x y
  | .p2u, [x] => toU m x
  | .u2p u n, [x] => ofU m u n x
  | .lenm, [x] => (entriesOf m x).map fun es => .int .i64 es.size
  | .lkp ag ks zero ok, [x, k] => if keyOk ag ks k then (entriesOf m x).bind fun es => (findE ag ks k es.toList 0).map fun r =>
      match r with
      | some (_, v) => if ok then .tuple #[v, .bool true] else v
      | none => if ok then .tuple #[zero, .bool false] else zero
    else none
  | .b2s, [x] => s1 (fun a n _ => (ldS m a n).bind fun l => (bytesIn l).map fun bs => .string ⟨bs.toArray⟩) x
  | .ent, [x] => p1 (entRead m) x
  | .ld, [x] => p1 (fun a => cell m a) x
  | .lda n, [x] => p1 (fun a => (ldCells m a 0 n).map fun l => .agg l.toArray) x
  | _, _ => none
def rd (ro : RO) (args : List Value) (m : Mem) : Option Value := match ro.reads with | true => rdm ro args m | false => rdp ro args
def pP (f : Addr → Prop) : Value → Prop
  | .pointer (some a) => f a
  | _ => False
def iP (f : Int → Prop) : Value → Prop
  | .int .i64 n => f n
  | _ => False
def sP (f : Option Addr → Nat → Nat → Prop) : Value → Prop
  | .slice a n c => f a n c
  | _ => False
def zP (f : ByteArray → Prop) : Value → Prop
  | .string s => f s
  | _ => False
theorem sP_inv {f : Option Addr → Nat → Nat → Prop} {v : Value} (h : sP f v) : ∃ a n c, v = .slice a n c ∧ f a n c := by
  unfold sP at h
  split at h
  · exact ⟨_, _, _, rfl, h⟩
  · exact h.elim
theorem zP_inv {f : ByteArray → Prop} {v : Value} (h : zP f v) : ∃ a, v = .string a ∧ f a := by
  unfold zP at h
  split at h
  · exact ⟨_, rfl, h⟩
  · exact h.elim
theorem sP_mono {f g : Option Addr → Nat → Nat → Prop} {v : Value} (h : ∀ a b c, f a b c → g a b c) (hh : sP f v) : sP g v := by obtain ⟨a, b, c, rfl, h'⟩ := sP_inv hh; exact h _ _ _ h'
theorem zP_mono {f g : ByteArray → Prop} {v : Value} (h : ∀ a, f a → g a) (hh : zP f v) : zP g v := by obtain ⟨a, rfl, h'⟩ := zP_inv hh; exact h _ h'
/-- an append: in the room that is there, or into a new row -/
def appP (size bytes : Nat) (zero : List Value) (t : TypeId) (m : Mem) (K : Value → Mem → Prop) (base : Option Addr) (n cap : Nat) (news : List Value) (k : Nat) : Prop :=
  (n + k) * bytes ≤ 140737488355328 ∧ n + k ≤ 4611686018427387904 ∧
  (n + k ≤ cap → match base with
    | some a => ∃ m', stCells m a (n * size) news = some m' ∧ K (.slice (some a) (n + k) cap) m'
    | none => K (.slice none (n + k) cap) m) ∧
  (cap < n + k → ∃ old, ldS m base (n * size) = some old ∧
    ∀ c b, n + k ≤ c → m b = none → K (.slice (some ⟨b, 0, none⟩) (n + k) c) (m.set b (.cells (old ++ news ++ (List.replicate (c - (n + k)) zero).flatten).toArray t)))
theorem appP_mono {size bytes : Nat} {zero : List Value} {t : TypeId} {m : Mem} {K K' : Value → Mem → Prop} {base : Option Addr} {n cap : Nat} {news : List Value} {k : Nat} (h : ∀ v m, K v m → K' v m)
    (hh : appP size bytes zero t m K base n cap news k) : appP size bytes zero t m K' base n cap news k := by
  obtain ⟨h1, h2, h3, h4⟩ := hh
  refine ⟨h1, h2, fun hc => ?_, fun hc => ?_⟩
  · have := h3 hc
    cases base with
    | none => exact h _ _ this
    | some a => obtain ⟨m', e, hk⟩ := this; exact ⟨m', e, h _ _ hk⟩
  · obtain ⟨old, e, hk⟩ := h4 hc
    exact ⟨old, e, fun c b hb hn => h _ _ (hk c b hb hn)⟩
def fP (f : Nat → List Value → List Value → Prop) : Value → Prop
  | .func (.func g) first captured => f g first.toList captured.toList
  | _ => False
theorem pP_inv {f : Addr → Prop} {v : Value} (h : pP f v) : ∃ a, v = .pointer (some a) ∧ f a := by
  unfold pP at h
  split at h
  · exact ⟨_, rfl, h⟩
  · exact h.elim
theorem iP_inv {f : Int → Prop} {v : Value} (h : iP f v) : ∃ a, v = .int .i64 a ∧ f a := by
  unfold iP at h
  split at h
  · exact ⟨_, rfl, h⟩
  · exact h.elim
theorem fP_inv {f : Nat → List Value → List Value → Prop} {v : Value} (h : fP f v) : ∃ g a c, v = .func (.func g) a c ∧ f g a.toList c.toList := by
  unfold fP at h
  split at h
  · exact ⟨_, _, _, rfl, h⟩
  · exact h.elim
theorem pP_mono {f g : Addr → Prop} {v : Value} (h : ∀ a, f a → g a) (hh : pP f v) : pP g v := by obtain ⟨a, rfl, h'⟩ := pP_inv hh; exact h _ h'
theorem iP_mono {f g : Int → Prop} {v : Value} (h : ∀ a, f a → g a) (hh : iP f v) : iP g v := by obtain ⟨a, rfl, h'⟩ := iP_inv hh; exact h _ h'
theorem fP_mono {f g : Nat → List Value → List Value → Prop} {v : Value} (h : ∀ a b c, f a b c → g a b c) (hh : fP f v) : fP g v := by obtain ⟨a, b, c, rfl, h'⟩ := fP_inv hh; exact h _ _ _ h'
def mP (f : Option Nat → Prop) : Value → Prop
  | .map r => f r
  | _ => False
theorem mP_inv {f : Option Nat → Prop} {v : Value} (h : mP f v) : ∃ r, v = .map r ∧ f r := by
  unfold mP at h
  split at h
  · exact ⟨_, rfl, h⟩
  · exact h.elim
theorem mP_mono {f g : Option Nat → Prop} {v : Value} (h : ∀ r, f r → g r) (hh : mP f v) : mP g v := by obtain ⟨r, rfl, h'⟩ := mP_inv hh; exact h _ h'
/-- an entry is laid -/
def mupP (ag : Bool) (ks : List LK) (m : Mem) (K : Value → Mem → Prop) (r : Nat) (k v : Value) : Prop :=
  keyOk ag ks k = true ∧ ∃ es clock, m r = some (.map es clock) ∧ ∃ o, findE ag ks k es.toList 0 = some o ∧
    match o with
    | some (i, _) => K undef (m.set r (.map (es.modify i fun e => { e with key := k, val := v }) clock))
    | none => K undef (m.set r (.map (es.push { key := k, val := v, born := clock }) (clock + 1)))
def dltP (ag : Bool) (ks : List LK) (m : Mem) (K : Value → Mem → Prop) (k : Value) : Option Nat → Prop
  | none => keyOk ag ks k = true ∧ K (.tuple #[]) m
  | some r => keyOk ag ks k = true ∧ ∃ es clock, m r = some (.map es clock) ∧ ∃ o, findE ag ks k es.toList 0 = some o ∧
    match o with
    | some (i, _) => K (.tuple #[]) (m.set r (.map (es.eraseIdxIfInBounds i) clock))
    | none => K (.tuple #[]) (m.set r (.map es clock))
def rngP (m : Mem) (K : Value → Mem → Prop) : Option Nat → Prop
  | none => ∀ b, m b = none → K (.pointer (some ⟨b, 0, none⟩)) (m.set b (.mapIter none 0 #[] 0))
  | some r => ∃ es clock, m r = some (.map es clock) ∧ ∀ b, m b = none → K (.pointer (some ⟨b, 0, none⟩)) (m.set b (.mapIter (some r) clock #[] clock))
/-- the next entry: any that was not seen yet; none, when all that were there at the beginning are seen -/
def nxtP (m : Mem) (K : Value → Mem → Prop) (a : Addr) : Prop :=
  a.off = 0 ∧ ∃ r since seen last, m a.block = some (.mapIter r since seen last) ∧
    match r with
    | none => K (.tuple #[.bool false]) m
    | some b => ∃ es clock, m b = some (.map es clock) ∧ (!seen.isEmpty && !es.isEmpty && es.all (·.born ≥ last)) = false ∧
      ((∀ e ∈ es.toList, seen.contains e.born = false → ¬ e.born < since) → K (.tuple #[.bool false]) m) ∧
      ∀ e ∈ es.toList, seen.contains e.born = false → K (.tuple #[.bool true, e.key, e.val]) (m.set a.block (.mapIter (some b) since (seen.push e.born) clock))
def clrP (zero : List Value) (m : Mem) (K : Value → Mem → Prop) : Option Addr → Nat → Nat → Prop
  | none, _, _ => K (.tuple #[]) m
  | some a, n, _ => ∃ m', stCells m a 0 (List.replicate n zero).flatten = some m' ∧ K (.tuple #[]) m'
def clrmP (m : Mem) (K : Value → Mem → Prop) : Option Nat → Prop
  | none => K (.tuple #[]) m
  | some r => ∃ es clock, m r = some (.map es clock) ∧ K (.tuple #[]) (m.set r (.map #[] clock))
/-- bytes that stand for a constant's -/
def mrkP (m : Mem) (K : Value → Mem → Prop) : Option Addr → Nat → Nat → Prop
  | none, _, _ => False
  | some a, n, c => ∃ arr t fr, m a.block = some (.cells arr t fr) ∧ (fr = (0, 0) ∨ fr = (arr.size, arr.size + 1)) ∧ K (.slice (some a) n c) (m.set a.block (.cells arr t (arr.size, arr.size + 1)))
/-- a row of whatever bytes -/
def mnzP (t : TypeId) (m : Mem) (K : Value → Mem → Prop) (n : Int) : Prop := 0 ≤ n ∧ n ≤ 281474976710656 ∧
  ∀ (c : Nat) (l : List Value) (b : Nat), n.toNat ≤ c → l.length = c → (∀ v ∈ l, v.oneCell' = true) → m b = none → K (.slice (some ⟨b, 0, none⟩) n.toNat c) (m.set b (.cells l.toArray t))
/-- bytes as a string: they are not written any more -/
def ustP (t : TypeId) (m : Mem) (K : Value → Mem → Prop) (p : Option Addr) (n : Int) : Prop := 0 ≤ n ∧ n ≤ 9223372036854775807 ∧
  if n = 0 then K (.string .empty) m else ∃ b arr fr, p = some ⟨b, 0, none⟩ ∧ m b = some (.cells arr t fr) ∧ n.toNat ≤ arr.size ∧
    ∃ bs, bytesIn (arr.toList.take n.toNat) = some bs ∧ ∀ fr', K (.string ⟨bs.toArray⟩) (m.set b (.cells arr t fr'))
def qP (f : Option Addr → Prop) : Value → Prop
  | .pointer p => f p
  | _ => False
theorem qP_inv {f : Option Addr → Prop} {v : Value} (h : qP f v) : ∃ a, v = .pointer a ∧ f a := by
  unfold qP at h
  split at h
  · exact ⟨_, rfl, h⟩
  · exact h.elim
/-- what does something to memory; what it makes is new: any block that was not there -/
def xs (P : Program) (ro : RO) (args : List Value) (m : Mem) (K : Value → Mem → Prop) : Prop :=
  match ro, args with
  | .st n, [x, v] => pP (fun a => v.cells.size = n ∧ ∃ m', stCells m a 0 v.cells.toList = some m' ∧ K undef m') x
  | .alc zero t, [] => ∀ b, m b = none → K (.pointer (some ⟨b, 0, none⟩)) (m.set b (.cells zero.toArray t))
  | .box t, [v] => ∀ b, m b = none → K (.pointer (some ⟨b, 0, none⟩)) (m.set b (.cells v.cells t))
  | .bsl t len zero places, vs => ∃ l, lay zero places vs = some l ∧ ∀ b, m b = none → K (.slice (some ⟨b, 0, none⟩) len len) (m.set b (.cells l.toArray t))
  | .mks t bytes zero, [x, y] => iP (fun n => iP (fun c => 0 ≤ n ∧ n ≤ c ∧ c ≤ 9223372036854775807 ∧ bytes * c ≤ 281474976710656 ∧
      ∀ b, m b = none → K (.slice (some ⟨b, 0, none⟩) n.toNat c.toNat) (m.set b (.cells (List.replicate c.toNat zero).flatten.toArray t))) y) x
  | .app t size bytes zero, [x, y] => sP (fun base n cap => sP (fun b k _ => ∃ news, ldS m b (k * size) = some news ∧ appP size bytes zero t m K base n cap news k) y) x
  | .apps t, [x, y] => sP (fun base n cap => zP (fun s => appP 1 1 [.int .u8 0] t m K base n cap (s.data.toList.map fun c => .int .u8 c.toNat) s.size) y) x
  | .appn t size bytes zero, [x, y] => sP (fun base n cap => iP (fun k => 0 ≤ k ∧ k * (bytes : Int) ≤ 281474976710656 ∧ appP size bytes zero t m K base n cap (List.replicate k.toNat zero).flatten k.toNat) y) x
  | .mrk, [x] => sP (fun a n c => mrkP m K a n c) x
  | .mnz t, [x] => iP (mnzP t m K) x
  | .ust t, [x, y] => qP (fun p => iP (ustP t m K p) y) x
  | .cpy size, [x, y] => sP (fun base n _ => sP (fun b k _ => ∃ cells, ldS m b (min k n * size) = some cells ∧
      match base with | some a => ∃ m', stCells m a 0 cells = some m' ∧ K (.int .i64 (min k n : Nat)) m' | none => K (.int .i64 (min k n : Nat)) m) y) x
  | .call f, vs => MC P f vs m K
  | .callv, x :: vs => fP (fun f first captured => callable P f = true ∧ MC P f (first ++ vs ++ captured) m K) x
  | .mkm, [] => ∀ b, m b = none → K (.map (some b)) (m.set b (.map #[] 0))
  | .mup ag ks, [x, k, v] => mP (fun r => ∃ b, r = some b ∧ mupP ag ks m K b k v) x
  | .dlt ag ks, [x, k] => mP (dltP ag ks m K k) x
  | .clr zero, [x] => sP (clrP zero m K) x
  | .clrm, [x] => mP (clrmP m K) x
  | .rng, [x] => mP (rngP m K) x
  | .nxt, [x] => pP (nxtP m K) x
  | .s2b t, [x] => zP (fun s => ∀ c b, s.size ≤ c → m b = none → K (.slice (some ⟨b, 0, none⟩) s.size c) (m.set b (.cells ((s.data.toList.map fun (x : UInt8) => Value.int .u8 x.toNat) ++ List.replicate (c - s.size) (Value.int .u8 0)).toArray t (c, c + 1)))) x
  | _, _ => False
end Go.Fw
/-! Structs and arrays held against each other. -/
namespace Go.Fw
def plainT (P : Program) (t : TypeId) : Bool := match P.underlying t with | some (.struct _) | some (.array _ _) | none => false | _ => true
def aggT (P : Program) (t : TypeId) : Bool := match P.underlying t with | some (.struct _) | some (.array _ _) => true | _ => false
section
variable {P : Program} {w : World}
theorem run_underlying' {t : TypeId} {d : TypeDesc} (h : P.underlying t = some d) : (underlying t).run P w = .ok d w := run_underlying h w
theorem run_typeInfo' {t : TypeId} {i : TypeInfo} (h : P.info? t = some i) : (typeInfo t).run P w = .ok i w := by simp [typeInfo, h]
theorem run_sizeOf' {t : TypeId} {i : TypeInfo} (h : P.info? t = some i) : (sizeOf t).run P w = .ok i.size w := by simp [sizeOf, run_typeInfo' h]
theorem isAgg_plain {t : TypeId} (h : plainT P t = true) : (isAgg t).run P w = .ok false w := by
  unfold plainT at h
  cases hu : P.underlying t with
  | none => simp [hu] at h
  | some d => unfold isAgg; cases d <;> simp_all [run_underlying' hu]
theorem isAgg_agg {t : TypeId} (h : aggT P t = true) : (isAgg t).run P w = .ok true w := by
  unfold aggT at h
  cases hu : P.underlying t with
  | none => simp [hu] at h
  | some d => unfold isAgg; cases d <;> simp_all [run_underlying' hu]
theorem run_part1 {t : TypeId} {cs : Array Value} {off : Nat} {v : Value} (ht : plainT P t = true) (h : cs[off]? = some v) : (part t cs off).run P w = .ok v w := by
  simp [part, isAgg_plain ht, h]
theorem run_parta {t : TypeId} {cs : Array Value} {off : Nat} {i : TypeInfo} (ht : aggT P t = true) (hi : P.info? t = some i) :
    (part t cs off).run P w = .ok (.agg (cs.extract off (off + i.size))) w := by
  simp [part, isAgg_agg ht, run_sizeOf' hi]
end
def fieldsLeaves (g : TypeId → Option (List LK)) : List Field → Nat → Option (List LK)
  | [], _ => some []
  | f :: fs, off => if f.name ≠ "_" ∧ f.offset = off then (g f.type).bind fun l => (fieldsLeaves g fs (off + l.length)).map (l ++ ·) else none
def sized (P : Program) (t : TypeId) (l : List LK) : Option (List LK) := if (P.info? t).map (·.size) = some l.length then some l else none
def leavesOf (P : Program) : Nat → TypeId → Option (List LK)
  | 0, _ => none
  | d + 1, t =>
    match P.underlying t with
    | some .bool => sized P t [.b]
    | some (.int k) => sized P t [.i k]
    | some .string => sized P t [.s]
    | some (.struct fs) => if P.stoodInHeld t then none else (fieldsLeaves (leavesOf P d) fs.toList 0).bind (sized P t)
    | some (.array n e) => (leavesOf P d e).bind fun l => sized P t (List.replicate n l).flatten
    | _ => none
theorem sized_inv {P : Program} {t : TypeId} {l l' : List LK} (h : sized P t l = some l') : l' = l ∧ ∃ i, P.info? t = some i ∧ i.size = l.length := by
  unfold sized at h
  split at h
  · rename_i h1
    obtain ⟨i, hi, e⟩ := Option.map_eq_some_iff.1 h1
    exact ⟨(Option.some.inj h).symm, i, hi, e⟩
  · cases h
theorem leavesOf_size {P : Program} {d : Nat} {t : TypeId} {l : List LK} (h : leavesOf P d t = some l) : ∃ i, P.info? t = some i ∧ i.size = l.length := by
  cases d with
  | zero => cases h
  | succ d =>
    simp only [leavesOf] at h
    split at h
    · obtain ⟨rfl, hh⟩ := sized_inv h; exact hh
    · obtain ⟨rfl, hh⟩ := sized_inv h; exact hh
    · obtain ⟨rfl, hh⟩ := sized_inv h; exact hh
    · split at h
      · cases h
      · obtain ⟨l', _, h⟩ := Option.bind_eq_some_iff.1 h
        obtain ⟨rfl, hh⟩ := sized_inv h; exact hh
    · obtain ⟨l', _, h⟩ := Option.bind_eq_some_iff.1 h
      obtain ⟨rfl, hh⟩ := sized_inv h; exact hh
    · cases h
theorem leafEq_append : ∀ {k1 k2 : List LK} {l l' : List Value} {b : Bool}, leafEq (k1 ++ k2) l l' = some b →
    ∃ b1 b2, leafEq k1 (l.take k1.length) (l'.take k1.length) = some b1 ∧ leafEq k2 (l.drop k1.length) (l'.drop k1.length) = some b2 ∧ b = (b1 && b2)
  | [], k2, l, l', b, h => ⟨true, b, by simp [leafEq], by simpa using h, by simp⟩
  | k :: k1, k2, x :: l, y :: l', b, h => by
    simp only [List.cons_append, leafEq] at h
    obtain ⟨b0, h0, h⟩ := Option.bind_eq_some_iff.1 h
    obtain ⟨b', h', rfl⟩ := Option.map_eq_some_iff.1 h
    obtain ⟨b1, b2, h1, h2, rfl⟩ := leafEq_append h'
    exact ⟨b0 && b1, b2, by simp [leafEq, h0, h1], by simpa using h2, by rw [Bool.and_assoc]⟩
  | k :: k1, k2, [], l', b, h => by simp [leafEq] at h
  | k :: k1, k2, x :: l, [], b, h => by simp [leafEq] at h
theorem leafEq_len : ∀ {k : List LK} {l l' : List Value} {b : Bool}, leafEq k l l' = some b → l.length = k.length ∧ l'.length = k.length
  | [], [], [], _, _ => ⟨rfl, rfl⟩
  | k :: ks, x :: l, y :: l', b, h => by
    simp only [leafEq] at h
    obtain ⟨b0, _, h⟩ := Option.bind_eq_some_iff.1 h
    obtain ⟨b', h', _⟩ := Option.map_eq_some_iff.1 h
    have := leafEq_len h'
    simp [this.1, this.2]
  | [], x :: l, _, _, h => by simp [leafEq] at h
  | [], [], y :: l', _, h => by simp [leafEq] at h
  | k :: ks, [], _, _, h => by simp [leafEq] at h
  | k :: ks, x :: l, [], _, h => by simp [leafEq] at h
section
variable {P : Program} {w : World}
/-- what is shown of a type -/
def EqOk (P : Program) (d : Nat) (t : TypeId) (ks : List LK) : Prop :=
  ∀ (w : World) (x y : Value) (b : Bool), (aggT P t = true → ∃ xs ys, x = .agg xs ∧ y = .agg ys) → (plainT P t = true → ∃ k, ks = [k] ∧ le1 k x y = some b) → leafEq ks (vcl x) (vcl y) = some b → (Op.equalIn d t x y).run P w = .ok b w
theorem ext_list (xs : Array Value) (off n : Nat) : (xs.extract off (off + n)).toList = (xs.toList.drop off).take n := by
  rw [Array.toList_extract]; simp [List.extract]
theorem leaves_kind {d : Nat} {e : TypeId} {ks : List LK} (h : leavesOf P d e = some ks) : (plainT P e = true ∧ aggT P e = false ∧ ∃ k, ks = [k]) ∨ (plainT P e = false ∧ aggT P e = true) := by
  cases d with
  | zero => cases h
  | succ d =>
    simp only [leavesOf] at h
    unfold plainT aggT
    split at h
    · rename_i hu; obtain ⟨rfl, _⟩ := sized_inv h; exact .inl ⟨by rw [hu], by rw [hu], _, rfl⟩
    · rename_i hu; obtain ⟨rfl, _⟩ := sized_inv h; exact .inl ⟨by rw [hu], by rw [hu], _, rfl⟩
    · rename_i hu; obtain ⟨rfl, _⟩ := sized_inv h; exact .inl ⟨by rw [hu], by rw [hu], _, rfl⟩
    · rename_i hu; exact .inr ⟨by rw [hu], by rw [hu]⟩
    · rename_i hu; exact .inr ⟨by rw [hu], by rw [hu]⟩
    · cases h
theorem step_ok {d : Nat} {e : TypeId} {ks : List LK} (hl : leavesOf P d e = some ks) (ih : EqOk P d e ks) {off : Nat} {xs ys : Array Value} {b : Bool}
    (h : leafEq ks ((xs.toList.drop off).take ks.length) ((ys.toList.drop off).take ks.length) = some b) :
    ∃ x y, (part e xs off).run P w = .ok x w ∧ (part e ys off).run P w = .ok y w ∧ (Op.equalIn d e x y).run P w = .ok b w := by
  rcases leaves_kind hl with ⟨hp, ha, k, rfl⟩ | ⟨hp, ha⟩
  · have hlen := leafEq_len h
    have get : ∀ zs : Array Value, ((zs.toList.drop off).take [k].length).length = [k].length → ∃ z, zs[off]? = some z ∧ (zs.toList.drop off).take [k].length = [z] := fun zs hz => by
      simp only [List.length_take, List.length_drop, Array.length_toList, List.length_cons, List.length_nil, Nat.zero_add] at hz
      have hlt : off < zs.size := by omega
      refine ⟨zs[off], Array.getElem?_eq_getElem hlt, ?_⟩
      rw [List.drop_eq_getElem_cons (by simpa using hlt)]
      simp
    obtain ⟨x, hx, ex⟩ := get xs hlen.1
    obtain ⟨y, hy, ey⟩ := get ys hlen.2
    rw [ex, ey] at h
    have h1 : le1 k x y = some b := by
      simp only [leafEq] at h
      obtain ⟨b0, h0, h⟩ := Option.bind_eq_some_iff.1 h
      simp only [Option.map_some, Option.some.injEq, Bool.and_true] at h
      rw [h0, h]
    refine ⟨x, y, run_part1 hp hx, run_part1 hp hy, ih w x y b (fun h => by rw [ha] at h; cases h) (fun _ => ⟨k, rfl, h1⟩) ?_⟩
    have hv : vcl x = [x] ∧ vcl y = [y] := by
      unfold le1 at h1
      split at h1 <;> first | exact ⟨rfl, rfl⟩ | cases h1
    rw [hv.1, hv.2]; exact h
  · obtain ⟨i, hi, hs⟩ := leavesOf_size hl
    refine ⟨_, _, run_parta ha hi, run_parta ha hi, ih w _ _ b (fun _ => ⟨_, _, rfl, rfl⟩) (fun h => by rw [hp] at h; cases h) ?_⟩
    simp only [vcl, ext_list, hs]
    exact h
theorem fields_ok {d : Nat} (ih : ∀ e ks, leavesOf P d e = some ks → EqOk P d e ks) (xs ys : Array Value) : ∀ (fs : List Field) (off : Nat) (ks : List LK) (b : Bool), fieldsLeaves (leavesOf P d) fs off = some ks →
    leafEq ks (xs.toList.drop off) (ys.toList.drop off) = some b → (Op.eqFields d xs ys fs).run P w = .ok b w
  | [], off, ks, b, h, hb => by
    simp only [fieldsLeaves, Option.some.injEq] at h
    subst h
    have : b = true := by
      unfold leafEq at hb
      split at hb <;> simp_all
    subst this
    simp [Op.eqFields]
  | f :: fs, off, ks, b, h, hb => by
    simp only [fieldsLeaves] at h
    split at h
    case isFalse => cases h
    rename_i hn
    obtain ⟨l, hl, h⟩ := Option.bind_eq_some_iff.1 h
    obtain ⟨r, hr, rfl⟩ := Option.map_eq_some_iff.1 h
    obtain ⟨b1, b2, h1, h2, rfl⟩ := leafEq_append hb
    obtain ⟨x, y, p1, p2, p3⟩ := step_ok (w := w) hl (ih _ _ hl) h1
    rw [List.drop_drop, List.drop_drop] at h2
    have := fields_ok ih xs ys fs (off + l.length) r b2 hr h2
    simp only [Op.eqFields, hn.1, ne_eq, not_false_eq_true, if_true, hn.2, Sem.run_bind, p1, p2, p3, Result.andThen_ok]
    cases b1
    · simp
    · simpa using this
theorem items_ok {d : Nat} {e : TypeId} {l : List LK} (hl : leavesOf P d e = some l) (ih : EqOk P d e l) (xs ys : Array Value) : ∀ (m k : Nat) (b : Bool),
    leafEq (List.replicate m l).flatten (xs.toList.drop (k * l.length)) (ys.toList.drop (k * l.length)) = some b → (Op.eqItems d e l.length xs ys (List.range' k m)).run P w = .ok b w
  | 0, k, b, hb => by
    have : b = true := by
      unfold leafEq at hb
      split at hb <;> simp_all
    subst this
    simp [Op.eqItems]
  | m + 1, k, b, hb => by
    rw [List.replicate_succ, List.flatten_cons] at hb
    obtain ⟨b1, b2, h1, h2, rfl⟩ := leafEq_append hb
    obtain ⟨x, y, p1, p2, p3⟩ := step_ok (w := w) hl ih h1
    rw [List.drop_drop, List.drop_drop, ← Nat.succ_mul] at h2
    have := items_ok hl ih xs ys m (k + 1) b2 h2
    simp only [List.range'_succ, Op.eqItems, Sem.run_bind, p1, p2, p3, Result.andThen_ok]
    cases b1
    · simp
    · simpa using this
theorem eq_ok : ∀ (d : Nat) (t : TypeId) (ks : List LK), leavesOf P d t = some ks → EqOk P d t ks
  | 0, _, _, h => by cases h
  | d + 1, t, ks, h => by
    have h0 := h
    intro w x y b hagg hpl hb
    simp only [leavesOf] at h
    have leaf : plainT P t = true → (∀ k, ks = [k] → le1 k x y = some b → (Op.equalIn (d + 1) t x y).run P w = .ok b w) → (Op.equalIn (d + 1) t x y).run P w = .ok b w := fun hp hk => by
      obtain ⟨k, e, h1⟩ := hpl hp
      exact hk k e h1
    split at h
    · rename_i hu
      obtain ⟨rfl, _⟩ := sized_inv h
      refine leaf (by simp [plainT, hu]) fun k e h1 => ?_
      cases e
      unfold le1 at h1
      split at h1 <;> first | (cases h1; done) | skip
      · simp only [Option.some.injEq] at h1; subst h1; exact run_equalIn_bool' w d t _ _ hu
      · rename_i hh; cases hh
      · rename_i hh; cases hh
    · rename_i k0 hu
      obtain ⟨rfl, _⟩ := sized_inv h
      refine leaf (by simp [plainT, hu]) fun k e h1 => ?_
      cases e
      unfold le1 at h1
      split at h1 <;> first | (cases h1; done) | skip
      · rename_i hh; cases hh
      · rename_i hh
        cases hh
        split at h1
        · rename_i hk
          simp only [Option.some.injEq] at h1; subst h1
          rw [hk.1, hk.2]; exact run_equalIn_int w d t _ _ _ _ hu
        · cases h1
      · rename_i hh; cases hh
    · rename_i hu
      obtain ⟨rfl, _⟩ := sized_inv h
      refine leaf (by simp [plainT, hu]) fun k e h1 => ?_
      cases e
      unfold le1 at h1
      split at h1 <;> first | (cases h1; done) | skip
      · rename_i hh; cases hh
      · rename_i hh; cases hh
      · simp only [Option.some.injEq] at h1; subst h1; rw [← ByteArray.toList_eq, ← ByteArray.toList_eq]; exact run_equalIn_string w d t _ _ hu
    · rename_i fs hu
      split at h
      · cases h
      · rename_i hst
        obtain ⟨l, hl, h⟩ := Option.bind_eq_some_iff.1 h
        obtain ⟨rfl, _⟩ := sized_inv h
        obtain ⟨xs, ys, rfl, rfl⟩ := hagg (by simp [aggT, hu])
        have hf : P.fieldsOf t = fs := by simp [Program.fieldsOf, hu]
        rw [run_equalIn_struct w d t xs ys (by rw [hf]; exact hu) (by simpa using hst), hf]
        exact fields_ok (fun e ks h => eq_ok d e ks h) xs ys fs.toList 0 _ b hl (by simpa [vcl] using hb)
    · rename_i n e hu
      obtain ⟨l, hl, h⟩ := Option.bind_eq_some_iff.1 h
      obtain ⟨rfl, _⟩ := sized_inv h
      obtain ⟨xs, ys, rfl, rfl⟩ := hagg (by simp [aggT, hu])
      obtain ⟨i, hi, hs⟩ := leavesOf_size hl
      have hc : P.cellsOf e = l.length := by simp [Program.cellsOf, hi, hs]
      rw [run_equalIn_array w d xs ys hu hi, hc, List.range_eq_range']
      exact items_ok hl (eq_ok d e l hl) xs ys n 0 b (by simpa [vcl] using hb)
    · cases h
end
end Go.Fw
/-! Keys of maps: looked for, laid, struck. -/
namespace Go.Fw
section
variable {P : Program} {w : World}
theorem leafEq_diag : ∀ {ks : List LK} {l l' : List Value} {b : Bool}, leafEq ks l l' = some b → leafEq ks l l = some true
  | [], [], [], _, _ => rfl
  | k :: ks, x :: l, y :: l', b, h => by
    simp only [leafEq] at h ⊢
    obtain ⟨b0, h0, h⟩ := Option.bind_eq_some_iff.1 h
    obtain ⟨b', h', _⟩ := Option.map_eq_some_iff.1 h
    have h1 : le1 k x x = some true := by
      unfold le1 at h0 ⊢
      split at h0
      · simp
      · split at h0
        · rename_i hk; simp [hk.1]
        · cases h0
      · simp
      · cases h0
    rw [h1, Option.bind_some, leafEq_diag h']; rfl
  | [], x :: l, _, _, h => by simp [leafEq] at h
  | [], [], y :: l', _, h => by simp [leafEq] at h
  | k :: ks, [], _, _, h => by simp [leafEq] at h
  | k :: ks, x :: l, [], _, h => by simp [leafEq] at h
theorem keyFit_agg {v : Value} (h : keyFit true v = true) : ∃ xs, v = .agg xs := by
  cases v <;> simp [keyFit] at h
  exact ⟨_, rfl⟩
theorem keyOk_iff {ag : Bool} {ks : List LK} {k : Value} (h : keyOk ag ks k = true) : keyFit ag k = true ∧ leafEq ks (vcl k) (vcl k) = some true := by
  unfold keyOk at h
  simp only [Bool.and_eq_true] at h
  obtain ⟨b, hb⟩ := Option.isSome_iff_exists.1 h.2
  exact ⟨h.1, leafEq_diag hb⟩
/-- equality of keys, as the model asks it -/
theorem equal_key {t : TypeId} {ks : List LK} (hl : leavesOf P 10000 t = some ks) {x y : Value} {b : Bool} (hx : keyFit (aggT P t) x = true) (hy : keyFit (aggT P t) y = true) (h : leafEq ks (vcl x) (vcl y) = some b) :
    (Op.equal t x y).run P w = .ok b w := by
  refine eq_ok 10000 t ks hl w x y b (fun ha => ?_) (fun hp => ?_) h
  · rw [ha] at hx hy
    obtain ⟨xs, rfl⟩ := keyFit_agg hx
    obtain ⟨ys, rfl⟩ := keyFit_agg hy
    exact ⟨_, _, rfl, rfl⟩
  · rcases leaves_kind hl with ⟨_, ha, k, rfl⟩ | ⟨hp', _⟩
    · refine ⟨k, rfl, ?_⟩
      rw [ha] at hx hy
      have one : ∀ v : Value, keyFit false v = true → vcl v = [v] := fun v hv => by cases v <;> simp [keyFit] at hv <;> rfl
      rw [one x hx, one y hy] at h
      simp only [leafEq] at h
      obtain ⟨b0, h0, h⟩ := Option.bind_eq_some_iff.1 h
      simp only [Option.map_some, Option.some.injEq, Bool.and_true] at h
      rw [h0, h]
    · rw [hp] at hp'; cases hp'
theorem findAsking_ok {t : TypeId} {ks : List LK} (hl : leavesOf P 10000 t = some ks) {k : Value} (hk : keyFit (aggT P t) k = true) : ∀ (es : List MapEntry) (i : Nat) (r : Option (Nat × Value)), findE (aggT P t) ks k es i = some r →
    (Instr.findAsking t k es i).run P w = .ok r w
  | [], i, r, h => by simp only [findE, Option.some.injEq] at h; subst h; simp [Instr.findAsking]
  | e :: es, i, r, h => by
    simp only [findE] at h
    split at h
    case isFalse => cases h
    rename_i he
    obtain ⟨b, hb, h⟩ := Option.bind_eq_some_iff.1 h
    have h1 := equal_key (w := w) hl hk he hb
    cases b with
    | true => simp only [if_true, Option.some.injEq] at h; subst h; simp [Instr.findAsking, h1]
    | false =>
      simp only [Bool.false_eq_true, if_false] at h
      simp [Instr.findAsking, h1, findAsking_ok hl hk es (i + 1) r h]
theorem findKey_ok {t : TypeId} {ks : List LK} (hl : leavesOf P 10000 t = some ks) {k : Value} (hk : keyFit (aggT P t) k = true) {es : List MapEntry} {r : Option (Nat × Value)} (h : findE (aggT P t) ks k es 0 = some r) :
    (Instr.findKey t k es).run P w = .ok r w := by
  obtain ⟨d, hd⟩ : ∃ d, P.underlying t = some d := by
    cases hu : P.underlying t with
    | none => simp [leavesOf, hu] at hl
    | some d => exact ⟨d, rfl⟩
  have hnow : ∀ (es : List MapEntry) (i : Nat) (r r' : Option (Nat × Value)), findE (aggT P t) ks k es i = some r → Instr.findNow d k es i = some r' → r' = r := by
    intro es
    induction es with
    | nil => intro i r r' h h'; simp only [findE, Instr.findNow, Option.some.injEq] at h h'; rw [← h, ← h']
    | cons e es ih =>
      intro i r r' h h'
      obtain ⟨ky, vl, bn⟩ := e
      simp only [findE] at h
      split at h
      case isFalse => cases h
      rename_i he
      obtain ⟨b, hb, h⟩ := Option.bind_eq_some_iff.1 h
      simp only [Instr.findNow] at h'
      have same : ∀ b', Instr.sameNow d k ky = some b' → b' = b := fun b' hb' => by
        clear h h' ih
        unfold Instr.sameNow at hb'
        split at hb'
        · split at hb'
          · simp only [Option.some.injEq] at hb'; subst hb'
            simp only [vcl] at hb
            rcases leaves_kind hl with ⟨_, _, q, rfl⟩ | ⟨_, ha⟩
            · simp only [leafEq] at hb
              obtain ⟨b0, h0, hb⟩ := Option.bind_eq_some_iff.1 hb
              simp only [Option.map_some, Option.some.injEq, Bool.and_true] at hb
              unfold le1 at h0
              split at h0 <;> simp_all
            · simp [aggT, hd] at ha
          · cases hb'
        · simp only [Option.some.injEq] at hb'; subst hb'
          simp only [vcl] at hb
          rcases leaves_kind hl with ⟨_, _, q, rfl⟩ | ⟨_, ha⟩
          · simp only [leafEq] at hb
            obtain ⟨b0, h0, hb⟩ := Option.bind_eq_some_iff.1 hb
            simp only [Option.map_some, Option.some.injEq, Bool.and_true] at hb
            cases q <;> simp only [le1, reduceCtorEq, Option.some.injEq] at h0
            rw [← (show b0 = b by assumption), ← h0, beq_toListBytes, ByteArray.toList_eq, ByteArray.toList_eq]
          · simp [aggT, hd] at ha
        · simp only [Option.some.injEq] at hb'; subst hb'
          simp only [vcl] at hb
          rcases leaves_kind hl with ⟨_, _, q, rfl⟩ | ⟨_, ha⟩
          · simp only [leafEq] at hb
            obtain ⟨b0, h0, hb⟩ := Option.bind_eq_some_iff.1 hb
            simp only [Option.map_some, Option.some.injEq, Bool.and_true] at hb
            unfold le1 at h0
            split at h0 <;> simp_all
          · simp [aggT, hd] at ha
        · cases hb'
      split at h'
      · rename_i hs
        have := same _ hs
        subst this
        simp only [if_true, Option.some.injEq] at h h'
        rw [← h, ← h']
      · rename_i hs
        have := same _ hs
        subst this
        simp only [Bool.false_eq_true, if_false] at h
        exact ih (i + 1) r r' h h'
      · cases h'
  unfold Instr.findKey
  simp only [Sem.run_bind, run_underlying' hd, Result.andThen_ok]
  cases hn : Instr.findNow d k es 0 with
  | none => exact findAsking_ok hl hk es 0 r h
  | some r' => rw [hnow es 0 r r' h hn]; simp
/-! keys may be -/
def CkOk (P : Program) (em : Bool) (d : Nat) (t : TypeId) (ks : List LK) : Prop :=
  ∀ (w : World) (x : Value), keyFit (aggT P t) x = true → leafEq ks (vcl x) (vcl x) = some true → (Instr.checkKey em d t x).run P w = .ok () w
theorem step_ck {em : Bool} {d : Nat} {e : TypeId} {ks : List LK} (hl : leavesOf P d e = some ks) (ih : CkOk P em d e ks) {off : Nat} {xs : Array Value}
    (h : leafEq ks ((xs.toList.drop off).take ks.length) ((xs.toList.drop off).take ks.length) = some true) :
    ∃ x, (part e xs off).run P w = .ok x w ∧ (Instr.checkKey em d e x).run P w = .ok () w := by
  rcases leaves_kind hl with ⟨hp, ha, k, rfl⟩ | ⟨hp, ha⟩
  · have hlen := (leafEq_len h).1
    simp only [List.length_take, List.length_drop, Array.length_toList, List.length_cons, List.length_nil, Nat.zero_add] at hlen
    have hlt : off < xs.size := by omega
    have ex : (xs.toList.drop off).take [k].length = [xs[off]] := by
      rw [List.drop_eq_getElem_cons (by simpa using hlt)]
      simp
    rw [ex] at h
    have h1 : le1 k xs[off] xs[off] = some true := by
      simp only [leafEq] at h
      obtain ⟨b0, h0, h⟩ := Option.bind_eq_some_iff.1 h
      simp only [Option.map_some, Option.some.injEq, Bool.and_true] at h
      rw [h0, h]
    refine ⟨xs[off], run_part1 hp (Array.getElem?_eq_getElem hlt), ih w _ ?_ ?_⟩
    · rw [ha]
      unfold le1 at h1
      split at h1 <;> first | (rename_i e1 _ ; rw [e1]; rfl) | (rename_i e1; rw [e1]; rfl) | cases h1 | simp_all [keyFit]
    · have hv : vcl xs[off] = [xs[off]] := by
        unfold le1 at h1
        split at h1 <;> simp_all [vcl]
      rw [hv]; exact h
  · obtain ⟨i, hi, hs⟩ := leavesOf_size hl
    refine ⟨_, run_parta ha hi, ih w _ (by rw [ha]; rfl) ?_⟩
    simp only [vcl, ext_list, hs]
    exact h
theorem leafEq_append' {k1 k2 : List LK} {l : List Value} (h : leafEq (k1 ++ k2) l l = some true) : leafEq k1 (l.take k1.length) (l.take k1.length) = some true ∧ leafEq k2 (l.drop k1.length) (l.drop k1.length) = some true := by
  obtain ⟨b1, b2, h1, h2, h3⟩ := leafEq_append h
  have : b1 = true ∧ b2 = true := by simpa using h3.symm
  rw [this.1] at h1; rw [this.2] at h2
  exact ⟨h1, h2⟩
theorem ck_ok (em : Bool) : ∀ (d : Nat) (t : TypeId) (ks : List LK), leavesOf P d t = some ks → CkOk P em d t ks
  | 0, _, _, h => by cases h
  | d + 1, t, ks, h => by
    intro w x hx hb
    simp only [leavesOf] at h
    split at h
    · rename_i hu
      unfold Instr.checkKey
      simp only [Sem.run_bind, run_underlying' hu, Result.andThen_ok]
      cases x <;> rfl
    · rename_i hu
      unfold Instr.checkKey
      simp only [Sem.run_bind, run_underlying' hu, Result.andThen_ok]
      cases x <;> rfl
    · rename_i hu
      unfold Instr.checkKey
      simp only [Sem.run_bind, run_underlying' hu, Result.andThen_ok]
      cases x <;> rfl
    · rename_i fs hu
      split at h
      · cases h
      · obtain ⟨l, hl, h⟩ := Option.bind_eq_some_iff.1 h
        obtain ⟨rfl, _⟩ := sized_inv h
        have ha : aggT P t = true := by simp [aggT, hu]
        rw [ha] at hx
        obtain ⟨xs, rfl⟩ := keyFit_agg hx
        unfold Instr.checkKey
        simp only [Sem.run_bind, run_underlying' hu, Result.andThen_ok]
        rw [← Array.forIn_toList]
        have go : ∀ (L : List Field) (off : Nat) (ks : List LK), fieldsLeaves (leavesOf P d) L off = some ks → leafEq ks (xs.toList.drop off) (xs.toList.drop off) = some true →
            (forIn L PUnit.unit (fun f _ => do
              if f.name ≠ "_" then Instr.checkKey em d f.type (← part f.type xs f.offset)
              pure (ForInStep.yield PUnit.unit)) : Sem PUnit).run P w = .ok () w := by
          intro L
          induction L with
          | nil => intro off ks _ _; simp
          | cons f L ih =>
            intro off ks hk hb
            simp only [fieldsLeaves] at hk
            split at hk
            case isFalse => cases hk
            rename_i hn
            obtain ⟨l1, hl1, hk⟩ := Option.bind_eq_some_iff.1 hk
            obtain ⟨r, hr, rfl⟩ := Option.map_eq_some_iff.1 hk
            obtain ⟨h1, h2⟩ := leafEq_append' hb
            obtain ⟨v, p1, p2⟩ := step_ck (w := w) hl1 (ck_ok em d _ _ hl1) h1
            rw [List.drop_drop] at h2
            rw [List.forIn_cons]
            simp only [Sem.run_bind, hn.1, ne_eq, not_false_eq_true, if_true, hn.2, p1, p2, Result.andThen_ok, Sem.run_pure]
            exact ih _ _ hr h2
        have := go fs.toList 0 _ hl (by simpa [vcl] using hb)
        simp at this ⊢
        rw [this]; rfl
    · rename_i n e hu
      obtain ⟨l, hl, h⟩ := Option.bind_eq_some_iff.1 h
      obtain ⟨rfl, _⟩ := sized_inv h
      have ha : aggT P t = true := by simp [aggT, hu]
      rw [ha] at hx
      obtain ⟨xs, rfl⟩ := keyFit_agg hx
      obtain ⟨i, hi, hs⟩ := leavesOf_size hl
      unfold Instr.checkKey
      simp only [Sem.run_bind, run_underlying' hu, Result.andThen_ok]
      simp only [Std.Legacy.Range.forIn_eq_forIn_range', Std.Legacy.Range.size, Nat.sub_zero, Nat.add_one_sub_one, Nat.div_one]
      have go : ∀ (m k : Nat), leafEq (List.replicate m l).flatten (xs.toList.drop (k * l.length)) (xs.toList.drop (k * l.length)) = some true →
          (forIn (List.range' k m) PUnit.unit (fun i _ => do
            Instr.checkKey em d e (← part e xs (i * (← sizeOf e)))
            pure (ForInStep.yield PUnit.unit)) : Sem PUnit).run P w = .ok () w := by
        intro m
        induction m with
        | zero => intro k _; simp
        | succ m ih =>
          intro k hb
          rw [List.replicate_succ, List.flatten_cons] at hb
          obtain ⟨h1, h2⟩ := leafEq_append' hb
          obtain ⟨v, p1, p2⟩ := step_ck (w := w) hl (ck_ok em d _ _ hl) h1
          rw [List.drop_drop, ← Nat.succ_mul] at h2
          rw [List.range'_succ, List.forIn_cons]
          simp only [Sem.run_bind, run_sizeOf' hi, hs, Result.andThen_ok, p1, p2, Sem.run_pure]
          exact ih (k + 1) h2
      have := go n 0 (by simpa [vcl] using hb)
      simp at this ⊢
      rw [this]; rfl
    · cases h
theorem checkKey_ok {em : Bool} {t : TypeId} {ks : List LK} (hl : leavesOf P 10000 t = some ks) {k : Value} (h : keyOk (aggT P t) ks k = true) : (Instr.checkKey em 10000 t k).run P w = .ok () w := by
  obtain ⟨h1, h2⟩ := keyOk_iff h
  exact ck_ok em 10000 t ks hl w k h1 h2
/-- the entry that was found has that very key -/
theorem le1_same {k : LK} {x y : Value} (h : le1 k x y = some true) : x = y := by
  unfold le1 at h
  split at h
  · simp only [Option.some.injEq, beq_iff_eq] at h; rw [h]
  · split at h
    · rename_i hk
      simp only [Option.some.injEq, beq_iff_eq] at h; rw [h, hk.1, hk.2]
    · cases h
  · simp only [Option.some.injEq, beq_iff_eq] at h
    rename_i a b
    obtain ⟨⟨a⟩⟩ := a
    obtain ⟨⟨b⟩⟩ := b
    simp only at h; rw [h]
  · cases h
theorem leafEq_same : ∀ {ks : List LK} {l l' : List Value}, leafEq ks l l' = some true → l = l'
  | [], [], [], _ => rfl
  | k :: ks, x :: l, y :: l', h => by
    simp only [leafEq] at h
    obtain ⟨b0, h0, h⟩ := Option.bind_eq_some_iff.1 h
    obtain ⟨b', h', e⟩ := Option.map_eq_some_iff.1 h
    simp only [Bool.and_eq_true] at e
    rw [e.1] at h0; rw [e.2] at h'
    rw [le1_same h0, leafEq_same h']
  | [], x :: l, _, h => by simp [leafEq] at h
  | [], [], y :: l', h => by simp [leafEq] at h
  | k :: ks, [], _, h => by simp [leafEq] at h
  | k :: ks, x :: l, [], h => by simp [leafEq] at h
theorem key_same {ag : Bool} {ks : List LK} {x y : Value} (hx : keyFit ag x = true) (hy : keyFit ag y = true) (h : leafEq ks (vcl x) (vcl y) = some true) : x = y := by
  have hv := leafEq_same h
  cases ag with
  | true =>
    obtain ⟨xs, rfl⟩ := keyFit_agg hx
    obtain ⟨ys, rfl⟩ := keyFit_agg hy
    simp only [vcl] at hv
    rw [Array.toList_inj.1 hv]
  | false =>
    have one : ∀ v : Value, keyFit false v = true → vcl v = [v] := fun v hv => by cases v <;> simp [keyFit] at hv <;> rfl
    rw [one x hx, one y hy] at hv
    simpa using hv
theorem findE_at {ag : Bool} {ks : List LK} {k : Value} (hk : keyFit ag k = true) : ∀ {es : List MapEntry} {i j : Nat} {v : Value}, findE ag ks k es i = some (some (j, v)) → ∃ n e, j = i + n ∧ es[n]? = some e ∧ e.key = k ∧ e.val = v
  | [], i, j, v, h => by simp [findE] at h
  | e :: es, i, j, v, h => by
    simp only [findE] at h
    split at h
    case isFalse => cases h
    rename_i he
    obtain ⟨b, hb, h⟩ := Option.bind_eq_some_iff.1 h
    cases b with
    | true =>
      simp only [if_true, Option.some.injEq, Prod.mk.injEq] at h
      exact ⟨0, e, by simp [h.1], rfl, (key_same hk he hb).symm, h.2⟩
    | false =>
      simp only [Bool.false_eq_true, if_false] at h
      obtain ⟨n, e', h1, h2, h3⟩ := findE_at hk h
      exact ⟨n + 1, e', by omega, by simpa using h2, h3⟩
theorem leaf_bits {k : LK} {x : Value} (h : le1 k x x = some true) (n : Nat) : Instr.sameBits n x x = true := by
  unfold le1 at h
  split at h
  · cases n <;> simp [Instr.sameBits]
  · cases n <;> simp [Instr.sameBits]
  · have e : ∀ a : ByteArray, (a == a) = true := fun a => by rw [beq_toListBytes]; simp
    cases n <;> simp only [Instr.sameBits, e]
  · cases h
theorem key_bits {ag : Bool} {ks : List LK} {k : Value} (h : keyOk ag ks k = true) : Instr.sameBits 10000 k k = true := by
  obtain ⟨h1, h2⟩ := keyOk_iff h
  have all : ∀ {ks : List LK} {l : List Value}, leafEq ks l l = some true → ∀ v ∈ l, ∀ n, Instr.sameBits n v v = true := by
    intro ks
    induction ks with
    | nil =>
      intro l h v hv
      cases l with
      | nil => cases hv
      | cons x l => simp [leafEq] at h
    | cons k ks ih =>
      intro l h v hv n
      cases l with
      | nil => cases hv
      | cons x l =>
        simp only [leafEq] at h
        obtain ⟨b0, h0, h⟩ := Option.bind_eq_some_iff.1 h
        obtain ⟨b', h', e⟩ := Option.map_eq_some_iff.1 h
        simp only [Bool.and_eq_true] at e
        rw [e.1] at h0; rw [e.2] at h'
        rcases List.mem_cons.1 hv with rfl | hv
        · exact leaf_bits h0 n
        · exact ih h' v hv n
  cases ag with
  | true =>
    obtain ⟨xs, rfl⟩ := keyFit_agg h1
    show Instr.sameBits (9999 + 1) (.agg xs) (.agg xs) = true
    simp only [Instr.sameBits, beq_self_eq_true, Bool.true_and, List.all_eq_true]
    rintro ⟨a, b⟩ hp
    obtain ⟨i, hi, e⟩ := List.mem_iff_getElem.1 hp
    rw [List.getElem_zip] at e
    have hia : i < xs.toList.length := by simpa using hi
    cases e
    exact all h2 _ (List.getElem_mem hia) 9999
  | false =>
    have one : vcl k = [k] := by cases k <;> simp [keyFit] at h1 <;> rfl
    rw [one] at h2
    exact all h2 k (List.mem_singleton.2 rfl) 10000
theorem stays_ok {ag : Bool} {ks : List LK} {k : Value} (h : keyOk ag ks k = true) : (Instr.keyThatStays k k).run P w = .ok k w := by
  simp [Instr.keyThatStays, key_bits h]
end
end Go.Fw
/-! From the model's operation to the resolved one, and that it is right. -/
namespace Go.Fw
def zeroOf (P : Program) (t : TypeId) : Option (Value × Nat) := (P.info? t).bind fun i => i.zero.map fun z => (z, i.size)
def placesOf (P : Program) (ps : List Nat) (fields : Array Field) : Option (List (Nat × Nat)) :=
  ps.mapM fun i => (fields[i]?).bind fun f => (P.info? f.type).map fun j => (f.offset, j.size)
def fieldsIn (P : Program) (fields : Array Field) : Bool := fields.all fun f => (P.info? f.type).isSome
def isNilP : Operand → Bool
  | .const (.pointer none) => true
  | _ => false
def resPtr (P : Program) (ng : Bool) (e : TypeId) (x y : Operand) : Option (RO × List Operand) :=
  if isNilP y then some (.eqp ng, [x, y]) else match P.info? e with
    | some i => if i.size = 0 then none else some (.eqq ng, [x, y])
    | none => none
def resBin (P : Program) (op : BinOp) (t : TypeId) (x y : Operand) : Option (RO × List Operand) :=
  match op, P.underlying t with
  | .add, some (.int _) | .sub, some (.int _) | .mul, some (.int _) => some (.iar op, [x, y])
  | .quo, some (.int _) | .rem, some (.int _) => some (.idv op, [x, y])
  | .and, some (.int _) | .or, some (.int _) | .xor, some (.int _) => some (.ibt op, [x, y])
  | .shl, some (.int _) | .shr, some (.int _) => some (.ish op, [x, y])
  | .eql, some (.int _) | .neq, some (.int _) | .lss, some (.int _) | .leq, some (.int _) | .gtr, some (.int _) | .geq, some (.int _) => some (.icm op, [x, y])
  | .eql, some .bool => some (.beq false, [x, y])
  | .neq, some .bool => some (.beq true, [x, y])
  | .eql, some (.pointer e) => resPtr P false e x y
  | .neq, some (.pointer e) => resPtr P true e x y
  | .eql, some (.slice _) => some (.eqs false, [x, y])
  | .neq, some (.slice _) => some (.eqs true, [x, y])
  | .eql, some (.map _ _) => some (.eqm false, [x, y])
  | .neq, some (.map _ _) => some (.eqm true, [x, y])
  | .add, some .string | .eql, some .string | .neq, some .string | .lss, some .string | .leq, some .string | .gtr, some .string | .geq, some .string => some (.str op, [x, y])
  | .eql, some (.struct _) | .eql, some (.array _ _) => if P.eqGuardType P.depth t then none else (leavesOf P 10000 t).map fun ks => (.eqc false ks, [x, y])
  | .neq, some (.struct _) | .neq, some (.array _ _) => if P.eqGuardType P.depth t then none else (leavesOf P 10000 t).map fun ks => (.eqc true ks, [x, y])
  | _, _ => none
def resSlice (P : Program) (t : TypeId) (x : Operand) (lo hi : Option Operand) : Option (RO × List Operand) :=
  match P.underlying t with
  | some (.slice e) => (P.info? e).map fun i => (.slc i.size lo.isSome hi.isSome, x :: lo.toList ++ hi.toList)
  | some .string => some (.slcs lo.isSome hi.isSome, x :: lo.toList ++ hi.toList)
  | some (.pointer arr) =>
    match P.underlying arr with
    | some (.array n e) => (P.info? e).map fun i => (.sla n i.size lo.isSome hi.isSome, x :: lo.toList ++ hi.toList)
    | _ => none
  | some (.array n e) => (P.info? e).map fun i => (.sla n i.size lo.isSome hi.isSome, x :: lo.toList ++ hi.toList)
  | _ => none
def resSlice3 (P : Program) (t : TypeId) (x : Operand) (lo hi mx : Option Operand) : Option (RO × List Operand) :=
  match P.underlying t, hi, mx with
  | some (.slice e), some hi, some mx => (P.info? e).map fun i => (.slc3 i.size lo.isSome, x :: lo.toList ++ [hi, mx])
  | _, _, _ => none
def resKey (P : Program) (t : TypeId) : Option (Bool × List LK × TypeId) :=
  match P.underlying t with
  | some (.map k e) => (leavesOf P 10000 k).map fun ks => (aggT P k, ks, e)
  | _ => none
def resLookup (P : Program) (t : TypeId) (x i : Operand) (ok : Bool) : Option (RO × List Operand) :=
  (resKey P t).bind fun k => (zeroOf P k.2.2).map fun z => (.lkp k.1 k.2.1 z.1 ok, [x, i])
def isU8 : Option Value → Bool
  | some (.int .u8 0) => true
  | _ => false
def resBuild (P : Program) (t : TypeId) (parts : List (Nat × Operand)) : Option (RO × List Operand) :=
  (zeroOf P t).bind fun z =>
    match P.underlying t with
    | some (.struct fields) => if fieldsIn P fields then (placesOf P (parts.map (·.1)) fields).map fun ps => (.bld z.1.cells.toList ps, parts.map (·.2)) else none
    | some (.array _ e) => (P.info? e).map fun i => (.bld z.1.cells.toList (parts.map fun p => (p.1 * i.size, i.size)), parts.map (·.2))
    | _ => none
def resBuildSlice (P : Program) (t : TypeId) (len : Nat) (parts : List (Nat × Operand)) : Option (RO × List Operand) :=
  match P.underlying t with
  | some (.slice e) => (P.info? e).bind fun i => (i.zero).bind fun z =>
    if z.cells.size = i.size ∧ 0 < i.size ∧ len * i.size ≤ 16777216 then some (.bsl e len (List.replicate len z.cells.toList).flatten (parts.map fun p => (p.1 * i.size, i.size)), parts.map (·.2)) else none
  | _ => none
def resIf (op : BinOp) (x y : Operand) : Option (RO × List Operand) :=
  match y with
  | .const .nilIface => (match op with | .eql => some (.eqi false, [x, y]) | .neq => some (.eqi true, [x, y]) | _ => none)
  | _ => none
def u8T (P : Program) (e : TypeId) : Bool := match P.underlying e with | some (.int .u8) => true | _ => false
theorem u8T_inv {P : Program} {e : TypeId} (h : u8T P e = true) : P.underlying e = some (.int .u8) := by
  unfold u8T at h
  split at h
  · assumption
  · cases h
def isIf (P : Program) (t : TypeId) : Bool := match P.underlying t with | some (.interface _) => true | _ => false
def resBin2 (P : Program) (op : BinOp) (t : TypeId) (x y : Operand) : Option (RO × List Operand) := if isIf P t then resIf op x y else resBin P op t x y
def resCap (P : Program) (argTypes : Array TypeId) (xs : List Operand) : Option (RO × List Operand) :=
  match (argTypes[0]?).bind P.underlying with
  | some (.slice _) => some (.cap, xs)
  | _ => none
def resLen (P : Program) (argTypes : Array TypeId) (xs : List Operand) : Option (RO × List Operand) :=
  match (argTypes[0]?).bind P.underlying with
  | some (.slice _) => some (.len, xs)
  | some .string => some (.lenz, xs)
  | some (.map _ _) => some (.lenm, xs)
  | _ => none
def resApp (P : Program) (argTypes : Array TypeId) (xs : List Operand) : Option (RO × List Operand) :=
  match (argTypes[0]?).bind P.underlying with
  | some (.slice e) =>
    match (argTypes[1]?).bind P.underlying with
    | some (.slice _) => (P.info? e).bind fun i => (i.zero).bind fun z => if z.cells.size = i.size ∧ 0 < i.size then some (.app e i.size i.bytes z.cells.toList, xs) else none
    | some .string => (P.info? e).bind fun i => if i.size = 1 ∧ i.bytes = 1 ∧ isU8 i.zero then some (.apps e, xs) else none
    | some (.int .i64) => (P.info? e).bind fun i => (i.zero).bind fun z => if z.cells.size = i.size ∧ 0 < i.size then some (.appn e i.size i.bytes z.cells.toList, xs) else none
    | _ => none
  | _ => none
def resCopy (P : Program) (argTypes : Array TypeId) (xs : List Operand) : Option (RO × List Operand) :=
  match (argTypes[0]?).bind P.underlying with
  | some (.slice e) => (P.info? e).map fun i => (.cpy i.size, xs)
  | _ => none
def resDelete (P : Program) (argTypes : Array TypeId) (xs : List Operand) : Option (RO × List Operand) :=
  ((argTypes[0]?).bind (resKey P)).map fun k => (.dlt k.1 k.2.1, xs)
def resClear (P : Program) (argTypes : Array TypeId) (xs : List Operand) : Option (RO × List Operand) :=
  match (argTypes[0]?).bind P.underlying with
  | some (.slice e) => (zeroOf P e).map fun z => (.clr z.1.cells.toList, xs)
  | some (.map _ _) => some (.clrm, xs)
  | _ => none
def resUst (P : Program) (argTypes : Array TypeId) (xs : List Operand) : Option (RO × List Operand) :=
  match (argTypes[0]?).bind P.underlying with
  | some (.pointer e) => if argTypes.size = 2 ∧ P.cellsOf e = 1 then some (.ust e, xs) else none
  | _ => none
def two (ro : RO) (xs : List Operand) : Option (RO × List Operand) := if xs.length = 2 then some (ro, xs) else none
def resBuiltin (P : Program) (b : Builtin) (argTypes : Array TypeId) (xs : List Operand) : Option (RO × List Operand) :=
  match b with
  | .len => resLen P argTypes xs
  | .append => resApp P argTypes xs
  | .copy => resCopy P argTypes xs
  | .min => some (.mn, xs)
  | .max => some (.mx, xs)
  | .delete => resDelete P argTypes xs
  | .clear => resClear P argTypes xs
  | .cap => resCap P argTypes xs
  | .unsafeSliceData => some (.usd, xs)
  | .unsafeString => resUst P argTypes xs
  | _ => none
theorem ext_n1 : Extern.allNextRows.lookup "internal/bytealg.IndexByteString" = none := by kernel_rfl
theorem ext_n2 : Extern.allNextRows.lookup "" = none := by kernel_rfl
theorem ext_g : Extern.allGenericRows.lookup "internal/bytealg.IndexByteString" = none := by kernel_rfl
theorem ext_t : Extern.allTypedRows.lookup "internal/bytealg.IndexByteString" = none := by kernel_rfl
theorem ext_a : Extern.allRows.lookup "internal/bytealg.IndexByteString" = some Extern.BytealgIndexByte.indexByte := by kernel_rfl
theorem ext_ixb {fn : Func} (h : fn.name = "internal/bytealg.IndexByteString") (ho : fn.origin = "") : Extern.findNext fn = none ∧ Extern.find fn = some Extern.BytealgIndexByte.indexByte := by
  simp [Extern.findNext, Extern.find, h, ho, ext_n1, ext_n2, ext_g, ext_t, ext_a]
theorem ext_s1 : Extern.allNextRows.lookup "internal/abi.NoEscape" = none := by kernel_rfl
theorem ext_s2 : Extern.allGenericRows.lookup "internal/abi.NoEscape" = none := by kernel_rfl
theorem ext_s3 : Extern.allTypedRows.lookup "internal/abi.NoEscape" = none := by kernel_rfl
theorem ext_s4 : Extern.allRows.lookup "internal/abi.NoEscape" = some Extern.AbiNoEscape.same := by kernel_rfl
theorem ext_nes {fn : Func} (h : fn.name = "internal/abi.NoEscape") (ho : fn.origin = "") : Extern.findNext fn = none ∧ Extern.find fn = some Extern.AbiNoEscape.same := by
  simp [Extern.findNext, Extern.find, h, ho, ext_s1, ext_n2, ext_s2, ext_s3, ext_s4]
theorem ext_m1 : Extern.allNextRows.lookup "internal/bytealg.MakeNoZero" = none := by kernel_rfl
theorem ext_m2 : Extern.allGenericRows.lookup "internal/bytealg.MakeNoZero" = none := by kernel_rfl
theorem ext_m3 : Extern.allTypedRows.lookup "internal/bytealg.MakeNoZero" = some Extern.BytealgMakeNoZero.makeNoZero := by kernel_rfl
theorem ext_mnz {fn : Func} (h : fn.name = "internal/bytealg.MakeNoZero") (ho : fn.origin = "") : Extern.findNext fn = none ∧ Extern.find fn = some (Extern.BytealgMakeNoZero.makeNoZero fn.params fn.resultTypes) := by
  simp [Extern.findNext, Extern.find, h, ho, ext_m1, ext_n2, ext_m2, ext_m3]
theorem ext_c1 : Extern.allNextRows.lookup "internal/bytealg.CountString" = none := by kernel_rfl
theorem ext_c2 : Extern.allGenericRows.lookup "internal/bytealg.CountString" = none := by kernel_rfl
theorem ext_c3 : Extern.allTypedRows.lookup "internal/bytealg.CountString" = none := by kernel_rfl
theorem ext_c4 : Extern.allRows.lookup "internal/bytealg.CountString" = some Extern.BytealgCount.count := by kernel_rfl
theorem ext_cnt {fn : Func} (h : fn.name = "internal/bytealg.CountString") (ho : fn.origin = "") : Extern.findNext fn = none ∧ Extern.find fn = some Extern.BytealgCount.count := by
  simp [Extern.findNext, Extern.find, h, ho, ext_c1, ext_n2, ext_c2, ext_c3, ext_c4]
def resExt (P : Program) (fn : Func) (xs : List Operand) : Option (RO × List Operand) :=
  if fn.body.isNone && fn.name == "internal/abi.NoEscape" && fn.origin == "" then some (.mv, xs)
  else if fn.body.isNone && fn.name == "internal/bytealg.MakeNoZero" && fn.origin == "" then
    (match (fn.resultTypes[0]?).bind P.underlying with | some (.slice e) => some (.mnz e, xs) | _ => none)
  else if fn.body.isNone && fn.name == "internal/bytealg.CountString" && fn.origin == "" then some (.cnt, xs)
  else none
def resVal (P : Program) (f : Operand) (xs : List Operand) : Option (RO × List Operand) :=
  match f with
  | .func f => (P.funcs[f]?).bind fun fn => if fn.body.isSome && fn.name != "runtime.NumGoroutine" then some (.call f, xs) else if fn.body.isNone && fn.name == "internal/bytealg.IndexByteString" && fn.origin == "" then some (.ixb, xs) else resExt P fn xs
  | .tmp t => some (.callv, .tmp t :: xs)
  | _ => none
def resCall (P : Program) (c : Call) (xs : List Operand) : Option (RO × List Operand) :=
  match c.callee with
  | .value f => resVal P f xs
  | .builtin b => resBuiltin P b c.argTypes xs
  | .invoke _ _ => none
def resUn (P : Program) (op : UnOp) (t : TypeId) (x : Operand) : Option (RO × List Operand) :=
  match op with
  | .not => some (.not, [x])
  | .neg => if (match P.underlying t with | some (.int _) => true | _ => false) then some (.neg, [x]) else none
  | .xor => if (match P.underlying t with | some (.int _) => true | _ => false) then some (.cpl, [x]) else none
  | _ => none
def res0 (P : Program) (o : Oper) : Option (RO × List Operand) :=
  match o.op with
  | .move x | .assign x => some (.mv, [x])
  | .pick c a b => some (.pick, [c, a, b])
  | .nilCheck x => some (.nilck, [x])
  | .fieldAddr s x f =>
    match P.underlying s with
    | some (.struct fields) => (fields[f]?).bind fun fl => (P.info? fl.type).bind fun i => if i.size = 0 then none else some (.fld fl.offset, [x])
    | _ => none
  | .indexAddr t x i =>
    match P.underlying t with
    | some (.slice e) => (P.info? e).map fun j => (.ixs j.size, [x, i])
    | some (.array n e) => (P.info? e).map fun j => (.ixa n j.size, [x, i])
    | _ => none
  | .load t x => if plainT P t then some (.ld, [x]) else if aggT P t then (P.info? t).map fun i => (.lda i.size, [x]) else none
  | .store t x v => (P.info? t).map fun i => (.st i.size, [x, v])
  | .alloc t => (zeroOf P t).map fun z => (.alc z.1.cells.toList t, [])
  | .box t v => some (.box t, [v])
  | .binOp op t x y _ => resBin2 P op t x y
  | .makeInterface t x => if isIf P t || (P.underlying t).isNone then none else some (.mki t, [x])
  | .unOp op t x => resUn P op t x
  | .convert s d x =>
    match P.underlying s, P.underlying d with
    | some (.int _), some (.int k) => some (.conv k, [x])
    | some .string, some .string => some (.zid, [x])
    | some (.slice e), some .string => if P.underlying e matches some (.int .u8) then some (.b2s, [x]) else none
    | some .string, some (.slice e) => if P.underlying e matches some (.int .u8) then some (.s2b e, [x]) else none
    | some (.slice _), some (.slice e) => if s == d && u8T P e then some (.mrk, [x]) else none
    | some (.pointer t), some .unsafePointer => (P.info? t).bind fun i => if i.size = 0 then none else some (.p2u, [x])
    | some .unsafePointer, some (.pointer t) => (P.info? t).bind fun i => if i.size = 0 then none else some (.u2p t i.size, [x])
    | _, _ => none
  | .field t x f =>
    match P.underlying t with
    | some (.struct fields) => (fields[f]?).bind fun fl => if plainT P fl.type then some (.prt fl.offset, [x]) else if aggT P fl.type then (P.info? fl.type).map fun i => (.prta fl.offset i.size, [x]) else none
    | _ => none
  | .extract x i => some (.ext i, [x])
  | .makeSlice t l c =>
    match P.underlying t with
    | some (.slice e) => (P.info? e).bind fun i => (i.zero).bind fun z => if z.cells.size = i.size ∧ 0 < i.size then some (.mks e i.bytes z.cells.toList, [l, c]) else none
    | _ => none
  | .slice t x lo hi mx => if mx.isNone then resSlice P t x lo hi else resSlice3 P t x lo hi mx
  | .index t x i =>
    match P.underlying t with
    | some (.array n e) => if plainT P e then (P.info? e).map fun j => (.idx n j.size, [x, i]) else if aggT P e then (P.info? e).map fun j => (.idxa n j.size, [x, i]) else none
    | some .string => some (.idxs, [x, i])
    | _ => none
  | .makeFunc fn first captured => some (.mkf fn first.size, first.toList ++ captured.toList)
  | .makeMap t r => if r.isNone then some (.mkm, []) else none
  | .lookup t x i ok => resLookup P t x i ok
  | .mapUpdate t m k x | .insert t m k x => (resKey P t).map fun z => (.mup z.1 z.2.1, [m, k, x])
  | .range t x => match P.underlying t with | some (.map _ _) => some (.rng, [x]) | _ => none
  | .next it isString => if isString then none else some (.nxt, [it])
  | .entry it => some (.ent, [it])
  | .build t parts => resBuild P t parts.toList
  | .buildSlice t len parts => resBuildSlice P t len parts.toList
  | .call c => resCall P c c.args.toList
  | _ => none
def res (P : Program) (o : Oper) : Option (RO × List Operand) := some ((res0 P o).getD (.bad, []))
theorem res_cases {P : Program} {o : Oper} {r : RO × List Operand} (h : res P o = some r) : res0 P o = some r ∨ r = (.bad, []) := by
  unfold res at h
  cases h0 : res0 P o with
  | none => rw [h0] at h; exact .inr (by simpa using h.symm)
  | some x => rw [h0] at h; exact .inl (by simpa using h)
section sound
variable {P : Program} {ro : RO} {xl : List Operand} {m : Mem} {w : World} {ρ : Operand → Value}
theorem run_load_cell {a : Addr} {v : Value} (hw : absM w = m) (h : cell m a = some v) : (load a).run P w = .ok v w := by
  subst hw; rw [cell_abs] at h; simp [h]
theorem run_loadCellsFrom (hw : absM w = m) (a : Addr) : ∀ (n i : Nat) (acc : Array Value) (l : List Value), ldCells m a i n = some l →
    (loadCellsFrom a i n acc).run P w = .ok (acc ++ l.toArray) w
  | 0, i, acc, l, h => by simp only [ldCells, Option.some.injEq] at h; subst h; simp [loadCellsFrom]
  | n + 1, i, acc, l, h => by
    simp only [ldCells, Option.bind_eq_some_iff, Option.map_eq_some_iff] at h
    obtain ⟨v, hv, r, hr, rfl⟩ := h
    simp only [loadCellsFrom, Sem.run_bind, run_load_cell hw hv, Result.andThen_ok, run_loadCellsFrom hw a n (i + 1) _ r hr]
    simp
theorem spl_eq : ∀ (off : Nat) (vs cs : List Value), spl off vs cs = if off + vs.length ≤ cs.length then some (cs.take off ++ vs ++ cs.drop (off + vs.length)) else none
  | 0, [], cs => by simp [spl]
  | 0, v :: vs, [] => by simp [spl]
  | 0, v :: vs, c :: cs => by
    simp only [spl, spl_eq 0 vs cs, Nat.zero_add, List.length_cons, Nat.add_le_add_iff_right]
    split <;> simp
  | n + 1, vs, [] => by simp only [spl, List.length_nil]; rw [if_neg (by omega)]
  | n + 1, vs, c :: cs => by
    simp only [spl, spl_eq n vs cs, List.length_cons]
    by_cases h : n + vs.length ≤ cs.length
    · rw [if_pos h, if_pos (by omega)]
      simp [show n + 1 + vs.length = (n + vs.length) + 1 from by omega]
    · rw [if_neg h, if_neg (by omega)]; rfl
theorem foldl_set (off : Nat) : ∀ (vs : List Value) (j : Nat) (cs : Array Value), off + j + vs.length ≤ cs.size →
    ((vs.zipIdx j).foldl (fun cs (c, j) => cs.setIfInBounds (off + j) c) cs).toList = cs.toList.take (off + j) ++ vs ++ cs.toList.drop (off + j + vs.length)
  | [], j, cs, h => by simp
  | v :: vs, j, cs, h => by
    simp only [List.length_cons] at h
    simp only [List.zipIdx_cons, List.foldl_cons]
    have ih := foldl_set off vs (j + 1) (cs.setIfInBounds (off + j) v) (by simp; omega)
    rw [ih]
    have hlt : off + j < cs.toList.length := by simp; omega
    simp only [Array.toList_setIfInBounds]
    rw [List.take_set, List.drop_set_of_lt (by omega), show off + (j + 1) = off + j + 1 from by omega, List.take_succ_eq_append_getElem (by simpa using hlt)]
    rw [List.set_append_right _ _ (by simp; omega)]
    simp only [List.length_take, Nat.min_eq_left (Nat.le_of_lt hlt), Nat.sub_self, List.set_cons_zero, List.append_assoc, List.cons_append, List.nil_append, List.length_cons]
    rw [show off + j + 1 + vs.length = off + j + (vs.length + 1) from by omega]
theorem fill_lay (place : Nat → Option (Nat × Nat)) : ∀ (parts : List (Nat × Value)) (ps : List (Nat × Nat)) (cells : Array Value) (l : List Value),
    (parts.map fun p => place p.1) = ps.map some → lay cells.toList ps (parts.map (·.2)) = some l → Instr.fill place cells parts = some l.toArray
  | [], ps, cells, l, hp, h => by
    cases ps with
    | nil => simp only [lay, List.map_nil, Option.some.injEq] at h; subst h; simp [Instr.fill]
    | cons p r => simp at hp
  | (i, v) :: r, ps, cells, l, hp, h => by
    cases ps with
    | nil => simp at hp
    | cons p ps =>
      obtain ⟨off, size⟩ := p
      simp only [List.map_cons, List.cons.injEq] at hp
      simp only [List.map_cons, lay] at h
      split at h
      case isFalse => cases h
      rename_i hsz
      rw [vcl_eq, Array.length_toList] at hsz
      obtain ⟨cs, hcs, hl⟩ := Option.bind_eq_some_iff.1 h
      rw [spl_eq, vcl_eq] at hcs
      split at hcs
      case isFalse => cases hcs
      rename_i hle
      simp only [Option.some.injEq] at hcs
      simp only [Array.length_toList] at hle
      simp only [Instr.fill, hp.1]
      rw [if_neg (by simp [hsz]; omega)]
      have h1 := foldl_set off v.cells.toList 0 cells (by simpa using hle)
      have h2 : (v.cells.zipIdx.foldl (fun cs (c, j) => cs.setIfInBounds (off + j) c) cells) = cs.toArray := by
        apply Array.ext'
        rw [← hcs, ← Array.foldl_toList]
        simpa using h1
      rw [h2]
      exact fill_lay place r ps cs.toArray l hp.2 hl
theorem some_pair {α β : Type} {a c : α} {b d : β} (h : some (a, b) = some (c, d)) : a = c ∧ b = d := by simpa using h
theorem i2_inv {f : IntKind → Int → Int → Option Value} {x y v : Value} (h : i2 f x y = some v) : ∃ k a b, x = .int k a ∧ y = .int k b ∧ f k a b = some v := by
  cases x <;> cases y <;> simp only [i2, reduceCtorEq] at h
  split at h
  · rename_i e; subst e; exact ⟨_, _, _, rfl, rfl, h⟩
  · cases h
theorem j2_inv {f : IntKind → Int → Int → Option Value} {x y v : Value} (h : j2 f x y = some v) : ∃ k k' a b, x = .int k a ∧ y = .int k' b ∧ f k a b = some v := by
  cases x <;> cases y <;> simp only [j2, reduceCtorEq] at h
  exact ⟨_, _, _, _, rfl, rfl, h⟩
theorem i1_inv {f : IntKind → Int → Option Value} {x v : Value} (h : i1 f x = some v) : ∃ k a, x = .int k a ∧ f k a = some v := by
  cases x <;> simp only [i1, reduceCtorEq] at h
  exact ⟨_, _, rfl, h⟩
theorem b2_inv {f : Bool → Bool → Option Value} {x y v : Value} (h : b2 f x y = some v) : ∃ a b, x = .bool a ∧ y = .bool b ∧ f a b = some v := by
  cases x <;> cases y <;> simp only [b2, reduceCtorEq] at h
  exact ⟨_, _, rfl, rfl, h⟩
theorem b1_inv {f : Bool → Option Value} {x v : Value} (h : b1 f x = some v) : ∃ a, x = .bool a ∧ f a = some v := by
  cases x <;> simp only [b1, reduceCtorEq] at h
  exact ⟨_, rfl, h⟩
theorem p1_inv {f : Addr → Option Value} {x v : Value} (h : p1 f x = some v) : ∃ a, x = .pointer (some a) ∧ f a = some v := by
  unfold p1 at h
  split at h
  · exact ⟨_, rfl, h⟩
  · cases h
theorem g1_inv {f : Array Value → Option Value} {x v : Value} (h : g1 f x = some v) : ∃ a, x = .agg a ∧ f a = some v := by
  cases x <;> simp only [g1, reduceCtorEq] at h
  exact ⟨_, rfl, h⟩
theorem t1_inv {f : Array Value → Option Value} {x v : Value} (h : t1 f x = some v) : ∃ a, x = .tuple a ∧ f a = some v := by
  cases x <;> simp only [t1, reduceCtorEq] at h
  exact ⟨_, rfl, h⟩
theorem s1_inv {f : Option Addr → Nat → Nat → Option Value} {x v : Value} (h : s1 f x = some v) : ∃ a n c, x = .slice a n c ∧ f a n c = some v := by
  cases x <;> simp only [s1, reduceCtorEq] at h
  exact ⟨_, _, _, rfl, h⟩
theorem z1_inv {f : ByteArray → Option Value} {x v : Value} (h : z1 f x = some v) : ∃ a, x = .string a ∧ f a = some v := by
  cases x <;> simp only [z1, reduceCtorEq] at h
  exact ⟨_, rfl, h⟩
theorem eqp_inv {ng : Bool} {x y v : Value} (h : eqp ng x y = some v) : ∃ a, x = .pointer a ∧ y = .pointer none ∧ v = .bool (if ng then a.isSome else a.isNone) := by
  unfold eqp at h
  split at h
  · exact ⟨_, rfl, rfl, by simpa using h.symm⟩
  · cases h
theorem plainB_inv {m : Mem} {b : Nat} (h : plainB m b = true) : ∃ c t, m b = some (.cells c t (0, 0)) := by
  unfold plainB at h
  split at h
  · exact ⟨_, _, by assumption⟩
  · cases h
theorem equalIn_ptr2 {t e : TypeId} {i : TypeInfo} (ht : P.underlying t = some (.pointer e)) (hi : P.info? e = some i) (hz : i.size ≠ 0) (d : Nat) {a b : Addr} {r : Bool} (h : (sameAddr a b).run P w = .ok r w) : (Op.equalIn (d + 1) t (.pointer (some a)) (.pointer (some b))).run P w = .ok r w := by
  simp [Op.equalIn, run_underlying' ht, run_sizeOf' hi, hz, h]
theorem equalIn_ptr0 {t e : TypeId} (ht : P.underlying t = some (.pointer e)) (d : Nat) (b : Addr) : (Op.equalIn (d + 1) t (.pointer none) (.pointer (some b))).run P w = .ok false w := by
  simp [Op.equalIn, run_underlying' ht]
theorem eqQ_run {ng : Bool} {x y v : Value} (h : eqQ (absM w) ng x y = some v) {t e : TypeId} {i : TypeInfo} (ht : P.underlying t = some (.pointer e)) (hi : P.info? e = some i) (hz : i.size ≠ 0) (d : Nat) :
    ∃ r, (Op.equalIn (d + 1) t x y).run P w = .ok r w ∧ v = .bool (if ng then !r else r) ∧ ∃ a b, x = .pointer a ∧ y = .pointer b := by
  unfold eqQ at h
  split at h
  · rename_i a
    simp only [Option.some.injEq] at h; subst h
    exact ⟨a.isNone, by cases a <;> simp [Op.equalIn, run_underlying' ht], by cases ng <;> cases a <;> rfl, _, _, rfl, rfl⟩
  · rename_i b
    simp only [Option.some.injEq] at h; subst h
    exact ⟨false, equalIn_ptr0 ht d b, by cases ng <;> rfl, _, _, rfl, rfl⟩
  · rename_i a b
    split at h
    · rename_i hb
      simp only [Option.some.injEq] at h; subst h
      exact ⟨a == b, equalIn_ptr2 ht hi hz d (by simp [sameAddr, hb]), rfl, _, _, rfl, rfl⟩
    · rename_i hb
      split at h
      · rename_i hp
        simp only [Bool.and_eq_true] at hp
        obtain ⟨ca, ta, ha⟩ := plainB_inv hp.1
        obtain ⟨cb, tb, hb'⟩ := plainB_inv hp.2
        simp only [Option.some.injEq] at h; subst h
        exact ⟨false, equalIn_ptr2 ht hi hz d (run_sameAddr_other w (fun e => hb (by rw [e])) ha hb'), by cases ng <;> rfl, _, _, rfl, rfl⟩
      · cases h
  · cases h
theorem eqs_inv {ng : Bool} {x y v : Value} (h : eqs ng x y = some v) : ∃ a n c n' c', x = .slice a n c ∧ y = .slice none n' c' ∧ v = .bool (if ng then a.isSome else a.isNone) := by
  unfold eqs at h
  split at h
  · exact ⟨_, _, _, _, _, rfl, rfl, by simpa using h.symm⟩
  · cases h
theorem eqm_inv {ng : Bool} {x y v : Value} (h : eqm ng x y = some v) : ∃ a, x = .map a ∧ y = .map none ∧ v = .bool (if ng then a.isSome else a.isNone) := by
  unfold eqm at h
  split at h
  · exact ⟨_, rfl, rfl, by simpa using h.symm⟩
  · cases h
theorem z2_inv {f : ByteArray → ByteArray → Option Value} {x y v : Value} (h : z2 f x y = some v) : ∃ a b, x = .string a ∧ y = .string b ∧ f a b = some v := by
  cases x <;> cases y <;> simp only [z2, reduceCtorEq] at h
  exact ⟨_, _, rfl, rfl, h⟩
theorem equalIn_map {t k e : TypeId} (ht : P.underlying t = some (.map k e)) (d : Nat) (a : Option Nat) : (Op.equalIn (d + 1) t (.map a) (.map none)).run P w = .ok a.isNone w := by
  cases a <;> simp [Op.equalIn, run_underlying' ht]
theorem equalIn_bool {t : TypeId} (ht : P.underlying t = some .bool) (d : Nat) (a b : Bool) : (Op.equalIn (d + 1) t (.bool a) (.bool b)).run P w = .ok (a == b) w := by
  simp [Op.equalIn, run_underlying' ht]
theorem equalIn_ptr {t e : TypeId} (ht : P.underlying t = some (.pointer e)) (d : Nat) (a : Option Addr) : (Op.equalIn (d + 1) t (.pointer a) (.pointer none)).run P w = .ok a.isNone w := by
  cases a <;> simp [Op.equalIn, run_underlying' ht]
theorem equalIn_slice {t e : TypeId} (ht : P.underlying t = some (.slice e)) (d : Nat) (a : Option Addr) (n c n' c' : Nat) : (Op.equalIn (d + 1) t (.slice a n c) (.slice none n' c')).run P w = .ok a.isNone w := by
  cases a <;> simp [Op.equalIn, run_underlying' ht]
theorem equal_def {t : TypeId} {x y : Value} : Op.equal t x y = Op.equalIn (9999 + 1) t x y := rfl
/-- binary operations on numbers and bools -/
theorem bin_quiet (hwm : absM w = m) {op : BinOp} {t : TypeId} {x y : Operand} (h : resBin P op t x y = some (ro, xl)) {v : Value} (hr : rd ro (xl.map ρ) m = some v) :
    (do eqGuard op t x y (ρ x) (ρ y); binOp op t (ρ x) (ρ y) : Sem Value).run P w = .ok v w := by
  have agg : ∀ (ng : Bool) (op : BinOp) (ks : List LK), (op = if ng then .neq else .eql) → aggT P t = true → leavesOf P 10000 t = some ks → P.eqGuardType P.depth t = false → rd (.eqc ng ks) [ρ x, ρ y] m = some v →
      (do eqGuard op t x y (ρ x) (ρ y); binOp op t (ρ x) (ρ y) : Sem Value).run P w = .ok v w := by
    intro ng op ks hop ha hl hg hr
    obtain ⟨xs, hx, hr⟩ := g1_inv hr
    obtain ⟨ys, hy, hr⟩ := g1_inv hr
    obtain ⟨b, hb, rfl⟩ := Option.map_eq_some_iff.1 hr
    rw [hx, hy]
    have h1 := eq_ok 10000 t ks hl w (.agg xs) (.agg ys) b (fun _ => ⟨_, _, rfl, rfl⟩) (fun hp => by
      rcases leaves_kind hl with ⟨_, ha', _⟩ | ⟨hp', _⟩
      · rw [ha] at ha'; cases ha'
      · rw [hp] at hp'; cases hp') hb
    subst hop
    cases ng
    · simp only [Bool.false_eq_true, if_false, Sem.run_bind, run_eqGuard_agg w .eql t x y xs ys hg, Result.andThen_ok, run_eql_struct, h1]
    · simp only [if_true, Sem.run_bind, run_eqGuard_agg w .neq t x y xs ys hg, Result.andThen_ok, run_neq_struct, h1]
  have ptr : ∀ (ng : Bool) (op : BinOp) (e : TypeId), (op = if ng then .neq else .eql) → P.underlying t = some (.pointer e) → resPtr P ng e x y = some (ro, xl) →
      (do eqGuard op t x y (ρ x) (ρ y); binOp op t (ρ x) (ρ y) : Sem Value).run P w = .ok v w := by
    intro ng op e hop hu h
    unfold resPtr at h
    split at h
    · obtain ⟨rfl, rfl⟩ := some_pair h
      simp only [List.map_cons, List.map_nil, rd, rdp, RO.reads] at hr
      obtain ⟨a, hx, hy, rfl⟩ := eqp_inv hr
      rw [hx, hy]
      subst hop
      cases ng <;> cases a <;> simp [eqGuard, binOp, equal_def, equalIn_ptr (P := P) hu]
    · split at h
      · rename_i i hi
        split at h
        · cases h
        · rename_i hz
          obtain ⟨rfl, rfl⟩ := some_pair h
          have hr : eqQ m ng (ρ x) (ρ y) = some v := hr
          rw [← hwm] at hr
          obtain ⟨r, h1, rfl, a, b, hx, hy⟩ := eqQ_run hr hu hi hz 9999
          rw [hx, hy] at h1 ⊢
          subst hop
          cases ng <;> simp [eqGuard, binOp, equal_def, h1]
      · cases h
  unfold resBin at h
  split at h <;> first
    | (cases h; done)
    | (rename_i hu; exact ptr _ _ _ rfl hu h)
    | (rename_i hu
       split at h
       · cases h
       · rename_i hg
         obtain ⟨ks, hl, h⟩ := Option.map_eq_some_iff.1 h
         obtain ⟨rfl, rfl⟩ := Prod.mk.injEq .. ▸ h
         exact agg _ _ ks rfl (by simp [aggT, hu]) hl (by simpa using hg) hr)
    | (obtain ⟨rfl, rfl⟩ := some_pair h)
  all_goals simp only [List.map_cons, List.map_nil, rd, rdp, RO.reads] at hr
  all_goals generalize ρ x = a at *
  all_goals generalize ρ y = b at *
  all_goals first
    | (obtain ⟨k, i, j, rfl, rfl, e⟩ := i2_inv hr
       first
         | (simp only [Option.some.injEq] at e; subst e; simp [eqGuard, binOp, Op.intArith, Op.intBits, Op.intCmp]; done)
         | (split at e
            · cases e
            · rename_i hz
              simp only [Option.some.injEq] at e; subst e; simp [eqGuard, binOp, Op.intDiv, hz]; done))
    | (obtain ⟨k, k', i, j, rfl, rfl, e⟩ := j2_inv hr
       split at e
       · cases e
       · rename_i hz
         simp only [Option.some.injEq] at e; subst e; simp [eqGuard, binOp, Op.shift, hz]; done)
    | (obtain ⟨i, j, rfl, rfl, e⟩ := b2_inv hr
       simp only [Option.some.injEq] at e; subst e
       cases i <;> cases j <;> simp [eqGuard, binOp, equal_def, equalIn_bool (P := P) (by assumption)] <;> done)
    | (obtain ⟨a, rfl, rfl, rfl⟩ := eqp_inv hr
       cases a <;> simp [eqGuard, binOp, equal_def, equalIn_ptr (P := P) (by assumption)] <;> done)
    | (obtain ⟨a, n, c, n', c', rfl, rfl, rfl⟩ := eqs_inv hr
       cases a <;> simp [eqGuard, binOp, equal_def, equalIn_slice (P := P) (by assumption)] <;> done)
    | (obtain ⟨a, rfl, rfl, rfl⟩ := eqm_inv hr
       cases a <;> simp [eqGuard, binOp, equal_def, equalIn_map (P := P) (by assumption)] <;> done)
    | (obtain ⟨a, b, rfl, rfl, e⟩ := z2_inv hr
       first
         | (simp only [Option.some.injEq] at e; subst e; simp [eqGuard, binOp, Op.stringOp, ByteArray.toList_eq]; done)
         | (split at e
            · rename_i hle
              simp only [Option.some.injEq] at e; subst e
              have h63 : ¬ (((a.size + b.size : Nat) : Int) > IntKind.i64.max) := by
                simp only [IntKind.max, IntKind.bits, IntKind.signed]; simp; omega
              have h1 : (Op.stringOp .add a b).run P w = .ok (.string (a ++ b)) w := by
                unfold Op.stringOp; simp only [if_neg h63]; rfl
              simp [eqGuard, binOp, h1]
            · cases e))
theorem equalIn_if0 {t : TypeId} {l : Array (String × TypeId)} (ht : P.underlying t = some (.interface l)) (d : Nat) : (Op.equalIn (d + 1) t .nilIface .nilIface).run P w = .ok true w := by
  simp [Op.equalIn, run_underlying' ht]
theorem equalIn_if1 {t : TypeId} {l : Array (String × TypeId)} (ht : P.underlying t = some (.interface l)) (d : Nat) (u : TypeId) (x : Value) : (Op.equalIn (d + 1) t (.iface u x) .nilIface).run P w = .ok false w := by
  simp [Op.equalIn, run_underlying' ht]
theorem bin_quiet2 (hwm : absM w = m) {op : BinOp} {t : TypeId} {x y : Operand} (h : resBin2 P op t x y = some (ro, xl)) {v : Value} (hr : rd ro (xl.map ρ) m = some v) :
    (do eqGuard op t x y (ρ x) (ρ y); binOp op t (ρ x) (ρ y) : Sem Value).run P w = .ok v w := by
  unfold resBin2 at h
  split at h
  · rename_i hif
    have hu : ∃ l, P.underlying t = some (.interface l) := by
      unfold isIf at hif
      split at hif
      · exact ⟨_, by assumption⟩
      · cases hif
    obtain ⟨l, hu⟩ := hu
    unfold resIf at h
    split at h
    case h_2 => cases h
    split at h
    · obtain ⟨rfl, rfl⟩ := some_pair h
      have hr : eqI false (ρ x) (ρ (.const .nilIface)) = some v := hr
      obtain ⟨hy, ⟨hx, rfl⟩ | ⟨⟨u, z, hx⟩, rfl⟩⟩ := eqI_inv hr
      · rw [hx, hy]; simp [eqGuard, binOp, equal_def, equalIn_if0 (P := P) hu]
      · rw [hx, hy]; simp [eqGuard, binOp, equal_def, equalIn_if1 (P := P) hu]
    · obtain ⟨rfl, rfl⟩ := some_pair h
      have hr : eqI true (ρ x) (ρ (.const .nilIface)) = some v := hr
      obtain ⟨hy, ⟨hx, rfl⟩ | ⟨⟨u, z, hx⟩, rfl⟩⟩ := eqI_inv hr
      · rw [hx, hy]; simp [eqGuard, binOp, equal_def, equalIn_if0 (P := P) hu]
      · rw [hx, hy]; simp [eqGuard, binOp, equal_def, equalIn_if1 (P := P) hu]
    · cases h
  · exact bin_quiet hwm h hr
theorem run_sliceBound {y : Nat} {c : BoundsCode} {k : IntKind} {i : Int} (h0 : 0 ≤ i) (h1 : i ≤ y) : (Instr.sliceBound (.int k i) y c).run P w = .ok i.toNat w := by
  simp [Instr.sliceBound, asIntOf, h0, h1]
theorem cutS_inv {size : Nat} {a : Option Addr} {cap : Nat} {lo hi : Int} {v : Value} (h : cutS size a cap lo hi = some v) :
    0 ≤ lo ∧ lo ≤ hi ∧ hi ≤ cap ∧ v = .slice (if cap = lo.toNat then a else a.map (·.add (lo.toNat * size))) (hi.toNat - lo.toNat) (cap - lo.toNat) := by
  unfold cutS at h
  split at h
  · rename_i e; exact ⟨e.1, e.2.1, e.2.2, by simpa using h.symm⟩
  · cases h
theorem cutA_inv {size : Nat} {a : Addr} {cap : Nat} {lo hi : Int} {v : Value} (h : cutA size a cap lo hi = some v) :
    0 ≤ lo ∧ lo ≤ hi ∧ hi ≤ cap ∧ v = .slice (some (if cap = lo.toNat then a else a.add (lo.toNat * size))) (hi.toNat - lo.toNat) (cap - lo.toNat) := by
  unfold cutA at h
  split at h
  · rename_i e; exact ⟨e.1, e.2.1, e.2.2, by simpa using h.symm⟩
  · cases h
theorem cut3_inv {size : Nat} {a : Option Addr} {cap : Nat} {lo hi mx : Int} {v : Value} (h : cut3 size a cap lo hi mx = some v) :
    0 ≤ lo ∧ lo ≤ hi ∧ hi ≤ mx ∧ mx ≤ cap ∧ v = .slice (if mx.toNat = lo.toNat then a else a.map (·.add (lo.toNat * size))) (hi.toNat - lo.toNat) (mx.toNat - lo.toNat) := by
  unfold cut3 at h
  split at h
  · rename_i e; exact ⟨e.1, e.2.1, e.2.2.1, e.2.2.2, by simpa using h.symm⟩
  · cases h
theorem cutZ_inv {s : ByteArray} {lo hi : Int} {v : Value} (h : cutZ s lo hi = some v) : 0 ≤ lo ∧ lo ≤ hi ∧ hi ≤ s.size ∧ v = .string (s.extract lo.toNat hi.toNat) := by
  unfold cutZ cutB at h
  split at h
  · rename_i e; exact ⟨e.1, e.2.1, e.2.2, by simpa using h.symm⟩
  · cases h
theorem slice_quiet {t : TypeId} {x : Operand} {lo hi : Option Operand} (h : resSlice P t x lo hi = some (ro, xl)) {v : Value} (hr : rd ro (xl.map ρ) m = some v) :
    (Instr.sliceAt t (ρ x) (lo.map ρ) (hi.map ρ) none).run P w = .ok v w := by
  unfold resSlice at h
  split at h
  · rename_i e hu
    obtain ⟨i, hi', h⟩ := Option.map_eq_some_iff.1 h
    obtain ⟨rfl, rfl⟩ := Prod.mk.injEq .. ▸ h
    have hz := run_sizeOf' (P := P) (w := w) hi'
    cases lo <;> cases hi <;> simp only [Option.isSome, Option.toList_none, Option.toList_some, List.append_nil, List.cons_append, List.nil_append, List.map_cons, List.map_nil, rd, rdp, RO.reads] at hr
    all_goals obtain ⟨a, n, c, hx, e⟩ := s1_inv hr
    · obtain ⟨h0, h1, h2, rfl⟩ := cutS_inv e
      have h2' : n ≤ c := by omega
      simp [Instr.sliceAt, Instr.slice, run_underlying' hu, hx, Instr.sliceBounds, hz]
    · obtain ⟨k, hi, hy, e⟩ := i1_inv e
      obtain ⟨h0, h1, h2, rfl⟩ := cutS_inv e
      simp [Instr.sliceAt, Instr.slice, run_underlying' hu, hx, hy, Instr.sliceBounds, run_sliceBound h1 h2, hz]
    · obtain ⟨k, lo, hy, e⟩ := i1_inv e
      obtain ⟨h0, h1, h2, rfl⟩ := cutS_inv e
      simp [Instr.sliceAt, Instr.slice, run_underlying' hu, hx, hy, Instr.sliceBounds, run_sliceBound h0 h1, hz]
    · obtain ⟨k, k', lo, hi, hy, hy', e⟩ := j2_inv e
      obtain ⟨h0, h1, h2, rfl⟩ := cutS_inv e
      have h3 : lo ≤ (hi.toNat : Int) := by omega
      simp [Instr.sliceAt, Instr.slice, run_underlying' hu, hx, hy, hy', Instr.sliceBounds, run_sliceBound h0 h3, run_sliceBound (Int.le_trans h0 h1) h2, hz]
  · rename_i hu
    obtain ⟨rfl, rfl⟩ := some_pair h
    cases lo <;> cases hi <;> simp only [Option.isSome, Option.toList_none, Option.toList_some, List.append_nil, List.cons_append, List.nil_append, List.map_cons, List.map_nil, rd, rdp, RO.reads] at hr
    all_goals obtain ⟨s, hx, e⟩ := z1_inv hr
    · obtain ⟨h0, h1, h2, rfl⟩ := cutZ_inv e
      simp [Instr.sliceAt, Instr.slice, run_underlying' hu, hx, Instr.sliceBounds]
    · obtain ⟨k, hi, hy, e⟩ := i1_inv e
      obtain ⟨h0, h1, h2, rfl⟩ := cutZ_inv e
      simp [Instr.sliceAt, Instr.slice, run_underlying' hu, hx, hy, Instr.sliceBounds, run_sliceBound h1 h2]
    · obtain ⟨k, lo, hy, e⟩ := i1_inv e
      obtain ⟨h0, h1, h2, rfl⟩ := cutZ_inv e
      simp [Instr.sliceAt, Instr.slice, run_underlying' hu, hx, hy, Instr.sliceBounds, run_sliceBound h0 h1]
    · obtain ⟨k, k', lo, hi, hy, hy', e⟩ := j2_inv e
      obtain ⟨h0, h1, h2, rfl⟩ := cutZ_inv e
      have h3 : lo ≤ (hi.toNat : Int) := by omega
      simp [Instr.sliceAt, Instr.slice, run_underlying' hu, hx, hy, hy', Instr.sliceBounds, run_sliceBound h0 h3, run_sliceBound (Int.le_trans h0 h1) h2]
  · rename_i arr hu
    split at h
    case h_2 => cases h
    rename_i n0 e hu2
    obtain ⟨i, hi', h⟩ := Option.map_eq_some_iff.1 h
    obtain ⟨rfl, rfl⟩ := Prod.mk.injEq .. ▸ h
    have hz := run_sizeOf' (P := P) (w := w) hi'
    cases lo <;> cases hi <;> simp only [Option.isSome, Option.toList_none, Option.toList_some, List.append_nil, List.cons_append, List.nil_append, List.map_cons, List.map_nil, rd, rdp, RO.reads] at hr
    all_goals obtain ⟨a, hx, e⟩ := p1_inv hr
    · obtain ⟨h0, h1, h2, rfl⟩ := cutA_inv e
      simp [Instr.sliceAt, Instr.slice, run_underlying' hu, run_underlying' hu2, hx, Instr.sliceBounds, hz, asAddr, Instr.sureAddr]
    · obtain ⟨k, hi, hy, e⟩ := i1_inv e
      obtain ⟨h0, h1, h2, rfl⟩ := cutA_inv e
      simp [Instr.sliceAt, Instr.slice, run_underlying' hu, run_underlying' hu2, hx, hy, Instr.sliceBounds, run_sliceBound h1 h2, hz, asAddr, Instr.sureAddr]
    · obtain ⟨k, lo, hy, e⟩ := i1_inv e
      obtain ⟨h0, h1, h2, rfl⟩ := cutA_inv e
      simp [Instr.sliceAt, Instr.slice, run_underlying' hu, run_underlying' hu2, hx, hy, Instr.sliceBounds, run_sliceBound h0 h1, hz, asAddr, Instr.sureAddr]
    · obtain ⟨k, k', lo, hi, hy, hy', e⟩ := j2_inv e
      obtain ⟨h0, h1, h2, rfl⟩ := cutA_inv e
      have h3 : lo ≤ (hi.toNat : Int) := by omega
      simp [Instr.sliceAt, Instr.slice, run_underlying' hu, run_underlying' hu2, hx, hy, hy', Instr.sliceBounds, run_sliceBound h0 h3, run_sliceBound (Int.le_trans h0 h1) h2, hz, asAddr, Instr.sureAddr]
  · rename_i n0 e hu
    obtain ⟨i, hi', h⟩ := Option.map_eq_some_iff.1 h
    obtain ⟨rfl, rfl⟩ := Prod.mk.injEq .. ▸ h
    have hz := run_sizeOf' (P := P) (w := w) hi'
    cases lo <;> cases hi <;> simp only [Option.isSome, Option.toList_none, Option.toList_some, List.append_nil, List.cons_append, List.nil_append, List.map_cons, List.map_nil, rd, rdp, RO.reads] at hr
    all_goals obtain ⟨a, hx, e⟩ := p1_inv hr
    · obtain ⟨h0, h1, h2, rfl⟩ := cutA_inv e
      simp [Instr.sliceAt, Instr.slice, run_underlying' hu, hx, Instr.sliceBounds, hz, asAddr, Instr.sureAddr]
    · obtain ⟨k, hi, hy, e⟩ := i1_inv e
      obtain ⟨h0, h1, h2, rfl⟩ := cutA_inv e
      simp [Instr.sliceAt, Instr.slice, run_underlying' hu, hx, hy, Instr.sliceBounds, run_sliceBound h1 h2, hz, asAddr, Instr.sureAddr]
    · obtain ⟨k, lo, hy, e⟩ := i1_inv e
      obtain ⟨h0, h1, h2, rfl⟩ := cutA_inv e
      simp [Instr.sliceAt, Instr.slice, run_underlying' hu, hx, hy, Instr.sliceBounds, run_sliceBound h0 h1, hz, asAddr, Instr.sureAddr]
    · obtain ⟨k, k', lo, hi, hy, hy', e⟩ := j2_inv e
      obtain ⟨h0, h1, h2, rfl⟩ := cutA_inv e
      have h3 : lo ≤ (hi.toNat : Int) := by omega
      simp [Instr.sliceAt, Instr.slice, run_underlying' hu, hx, hy, hy', Instr.sliceBounds, run_sliceBound h0 h3, run_sliceBound (Int.le_trans h0 h1) h2, hz, asAddr, Instr.sureAddr]
  · cases h
theorem slice3_quiet {t : TypeId} {x : Operand} {lo hi mx : Option Operand} (h : resSlice3 P t x lo hi mx = some (ro, xl)) {v : Value} (hr : rd ro (xl.map ρ) m = some v) :
    (Instr.sliceAt t (ρ x) (lo.map ρ) (hi.map ρ) (mx.map ρ)).run P w = .ok v w := by
  unfold resSlice3 at h
  split at h
  case h_2 => cases h
  rename_i e hi mx hu
  obtain ⟨i, hi', h⟩ := Option.map_eq_some_iff.1 h
  obtain ⟨rfl, rfl⟩ := Prod.mk.injEq .. ▸ h
  have hz := run_sizeOf' (P := P) (w := w) hi'
  cases lo <;> simp only [Option.isSome, Option.toList_none, Option.toList_some, List.cons_append, List.nil_append, List.map_cons, List.map_nil, rd, rdp, RO.reads] at hr
  all_goals obtain ⟨a, n, c, hx, e⟩ := s1_inv hr
  · obtain ⟨k, k', hi, mx, hy, hy', e⟩ := j2_inv e
    obtain ⟨h0, h1, h2, h3, rfl⟩ := cut3_inv e
    have h4 : hi ≤ (mx.toNat : Int) := by omega
    simp [Instr.sliceAt, Instr.slice, run_underlying' hu, hx, hy, hy', Instr.sliceBounds, run_sliceBound (Int.le_trans h1 h2) h3, run_sliceBound h1 h4, hz]
  · obtain ⟨k0, lo, hy0, e⟩ := i1_inv e
    obtain ⟨k, k', hi, mx, hy, hy', e⟩ := j2_inv e
    obtain ⟨h0, h1, h2, h3, rfl⟩ := cut3_inv e
    have h4 : hi ≤ (mx.toNat : Int) := by omega
    have h5 : lo ≤ (hi.toNat : Int) := by omega
    simp [Instr.sliceAt, Instr.slice, run_underlying' hu, hx, hy, hy', hy0, Instr.sliceBounds, run_sliceBound (Int.le_trans h0 (Int.le_trans h1 h2)) h3, run_sliceBound (Int.le_trans h0 h1) h4, run_sliceBound h0 h5, hz]
end sound
end Go.Fw
namespace Go.Fw
section sound
variable {P : Program} {ro : RO} {xl : List Operand} {m : Mem} {w : World} {ρ : Operand → Value} {v : Value}
theorem run_getObj_map {r : Nat} {es : Array MapEntry} {c : Nat} (h : absM w r = some (.map es c)) : (getObj r).run P w = .ok (.map es c) w := by
  have h' : w.heap[r]? = some (.map es c) := h
  simp [getObj, Sem.run, h']
theorem len_quiet {ats : Array TypeId} {args : List Operand} {ty : TypeId} (h : resLen P ats args = some (ro, xl)) (hr : rd ro (xl.map ρ) m = some v) (hw : absM w = m) :
    (Builtin.len_ ats ty (args.map ρ).toArray).run P w = .ok v w := by
  unfold resLen at h
  split at h
  · obtain ⟨rfl, rfl⟩ := some_pair h
    rename_i e hu
    obtain ⟨t, ht, hu⟩ := Option.bind_eq_some_iff.1 hu
    match args, hr with
    | [x], hr =>
      obtain ⟨a, n, c, hx, e⟩ := s1_inv hr
      simp only [Option.some.injEq] at e; subst e
      simp [Builtin.len_, ht, hx, run_underlying' hu, goInt]
    | [], hr => simp [rd, rdp, RO.reads] at hr
    | _ :: _ :: _, hr => simp [rd, rdp, RO.reads] at hr
  · obtain ⟨rfl, rfl⟩ := some_pair h
    rename_i hu
    obtain ⟨t, ht, hu⟩ := Option.bind_eq_some_iff.1 hu
    match args, hr with
    | [x], hr =>
      obtain ⟨s, hx, e⟩ := z1_inv hr
      simp only [Option.some.injEq] at e; subst e
      simp [Builtin.len_, ht, hx, run_underlying' hu, goInt]
    | [], hr => simp [rd, rdp, RO.reads] at hr
    | _ :: _ :: _, hr => simp [rd, rdp, RO.reads] at hr
  · obtain ⟨rfl, rfl⟩ := some_pair h
    rename_i hu
    obtain ⟨t, ht, hu⟩ := Option.bind_eq_some_iff.1 hu
    match args, hr with
    | [x], hr =>
      have hr : (entriesOf m (ρ x)).map (fun es => Value.int .i64 es.size) = some v := hr
      obtain ⟨es, he, rfl⟩ := Option.map_eq_some_iff.1 hr
      unfold entriesOf at he
      split at he
      · rename_i hx
        simp only [Option.some.injEq] at he; subst he
        simp [Builtin.len_, ht, hx, run_underlying' hu, goInt]
      · rename_i r hx
        split at he
        · rename_i es' c hr'
          simp only [Option.some.injEq] at he; subst he
          subst hw
          simp [Builtin.len_, ht, hx, run_underlying' hu, goInt, run_getObj_map hr']
        · cases he
      · cases he
    | [], hr => simp [rd, rdm, RO.reads] at hr
    | _ :: _ :: _, hr => simp [rd, rdm, RO.reads] at hr
  · cases h
theorem cap_quiet {ats : Array TypeId} {args : List Operand} {ty : TypeId} (h : resCap P ats args = some (ro, xl)) (hr : rd ro (xl.map ρ) m = some v) :
    (Builtin.cap_ ats ty (args.map ρ).toArray).run P w = .ok v w := by
  unfold resCap at h
  split at h
  · obtain ⟨rfl, rfl⟩ := some_pair h
    rename_i e hu
    obtain ⟨t, ht, hu⟩ := Option.bind_eq_some_iff.1 hu
    match args, hr with
    | [x], hr =>
      obtain ⟨a, n, c, hx, e⟩ := s1_inv hr
      simp only [Option.some.injEq] at e; subst e
      simp [Builtin.cap_, ht, hx, run_underlying' hu, goInt]
    | [], hr => simp [rd, rdp, RO.reads] at hr
    | _ :: _ :: _, hr => simp [rd, rdp, RO.reads] at hr
  · cases h
theorem min_run {ats : Array TypeId} {ty : TypeId} {args : List Value} (hr : rd .mn args m = some v) : (Builtin.min_ ats ty args.toArray).run P w = .ok v w := by
  have two2 : ∀ a b u, mn2 a b = some u → (Builtin.min2 a b).run P w = .ok u w := fun a b u h => by
    unfold mn2 at h
    split at h
    · split at h
      · rename_i hk
        simp only [Option.some.injEq] at h; subst h; simp [Builtin.min2]
      · cases h
    · simp only [Option.some.injEq] at h; subst h
      simp only [Builtin.min2, Op.stringOp, ByteArray.toList_eq, Sem.run_bind, Sem.run_pure, Result.andThen_ok, asBool]
    · cases h
  cases args with
  | nil => simp [rd, rdp, RO.reads] at hr
  | cons x r =>
    have hr : fold2 mn2 x r = some v := hr
    show (r.foldlM Builtin.min2 x).run P w = .ok v w
    induction r generalizing x with
    | nil => simp only [fold2, Option.some.injEq] at hr; subst hr; simp
    | cons y r ih =>
      simp only [fold2] at hr
      obtain ⟨u, hu, hr⟩ := Option.bind_eq_some_iff.1 hr
      simp only [List.foldlM_cons, Sem.run_bind, two2 _ _ _ hu, Result.andThen_ok]
      exact ih u hr hr
theorem max_run {ats : Array TypeId} {ty : TypeId} {args : List Value} (hr : rd .mx args m = some v) : (Builtin.max_ ats ty args.toArray).run P w = .ok v w := by
  have two2 : ∀ a b u, mx2 a b = some u → (Builtin.max2 a b).run P w = .ok u w := fun a b u h => by
    unfold mx2 at h
    split at h
    · split at h
      · rename_i hk
        simp only [Option.some.injEq] at h; subst h; simp [Builtin.max2]
      · cases h
    · cases h
  cases args with
  | nil => simp [rd, rdp, RO.reads] at hr
  | cons x r =>
    have hr : fold2 mx2 x r = some v := hr
    show (r.foldlM Builtin.max2 x).run P w = .ok v w
    induction r generalizing x with
    | nil => simp only [fold2, Option.some.injEq] at hr; subst hr; simp
    | cons y r ih =>
      simp only [fold2] at hr
      obtain ⟨u, hu, hr⟩ := Option.bind_eq_some_iff.1 hr
      simp only [List.foldlM_cons, Sem.run_bind, two2 _ _ _ hu, Result.andThen_ok]
      exact ih u hr hr
theorem cnt_run {x y : Value} (h : cntB x y = some v) : (Extern.BytealgCount.count #[x, y]).run P w = .ok v w := by
  unfold cntB at h
  split at h
  case h_2 => cases h
  rename_i s c
  simp only [Option.some.injEq] at h; subst h
  change Sem.run P (do
    let b ← Extern.Bytes.bytesOf (.string s)
    let c' ← Extern.Bytes.asByte (.int .u8 c)
    pure (goInt (b.foldl (fun n x => if x == c' then n + 1 else n) (0 : Nat)))) w = _
  simp only [Extern.Bytes.bytesOf, Extern.Bytes.asByte, Sem.run_bind, Sem.run_pure, Result.andThen, goInt]
theorem shape_of {a : Nat} {arr : Array Value} {t : TypeId} {fr : Nat × Nat} (hw : absM w = m) (h : m a = some (.cells arr t fr)) : w.shape? a = some (t, arr.size) := by
  subst hw
  have h : w.heap[a]? = some (.cells arr t fr) := h
  unfold World.shape?; rw [h]
theorem toU_run {s d t : TypeId} {i : TypeInfo} {x : Value} (hr : toU m x = some v) (hw : absM w = m) (h1 : P.underlying s = some (.pointer t)) (h2 : P.underlying d = some .unsafePointer) (hi : P.info? t = some i) (hi0 : ¬ i.size = 0) :
    (convert s d x).run P w = .ok v w := by
  unfold toU at hr
  split at hr
  case h_2 => cases hr
  rename_i a
  split at hr
  case h_2 => cases hr
  rename_i arr t' fr hm
  split at hr
  case isFalse => cases hr
  rename_i hlt
  simp only [Option.some.injEq] at hr; subst hr
  have hsh := shape_of hw hm
  simp [convert, run_underlying' h1, run_underlying' h2, Conv.unsafePointer, Conv.seenAt, viewAt, cellsIn, hsh, run_sizeOf' hi, hi0]
  intro h
  omega
theorem liesAt_self {t : TypeId} {i : TypeInfo} (hi : P.info? t = some i) (hi0 : ¬ i.size = 0) {n : Nat} (hn : i.size ≤ n) : liesAt P P.depth t (n / P.cellsOf t) 0 t 1 = true := by
  have hc : P.cellsOf t = i.size := by simp [Program.cellsOf, hi]
  rw [hc]
  have hq : 1 ≤ n / i.size := (Nat.le_div_iff_mul_le (by omega)).2 (by omega)
  have hd : P.depth = (2 * (P.types.size + Made.depth) + 1) + 1 := rfl
  rw [hd]
  simp only [liesAt, Bool.or_eq_true]
  left
  rw [hd]
  simp [rowAt, hc, hi0, sameLayout]
  omega
theorem ofU_run {s d t : TypeId} {i : TypeInfo} {x : Value} (hr : ofU m t i.size x = some v) (hw : absM w = m) (h1 : P.underlying s = some .unsafePointer) (h2 : P.underlying d = some (.pointer t)) (hi : P.info? t = some i) (hi0 : ¬ i.size = 0) :
    (convert s d x).run P w = .ok v w := by
  unfold ofU at hr
  split at hr
  case h_2 => cases hr
  rename_i a
  split at hr
  case h_2 => cases hr
  rename_i arr t' fr hm
  split at hr
  case isFalse => cases hr
  rename_i hh
  obtain ⟨rfl, h0, hsz⟩ := hh
  simp only [Option.some.injEq] at hr; subst hr
  have hsh := shape_of hw hm
  have hl := liesAt_self hi hi0 hsz
  rw [← h0] at hl
  simp [convert, run_underlying' h1, run_underlying' h2, Conv.unsafePointer, Conv.seenAt, viewAt, hsh, variablesAt, hl, run_sizeOf' hi]
theorem call_quiet {o : Oper} {c : Call} (ho : o.op = .call c) (h : resCall P c c.args.toList = some (ro, xl)) (hq : ro.quiet = true) (hr : rd ro (xl.map ρ) m = some v) (hw : absM w = m) (hρ : ∀ f, ρ (.func f) = .func (.func f) #[] #[]) :
    (execOp ρ o).run P w = .ok (.value v) w := by
  obtain ⟨callee, args, argTypes⟩ := c
  obtain ⟨args⟩ := args
  simp only [resCall] at h
  cases callee with
  | invoke r n => cases h
  | value f =>
    simp only [resVal] at h
    cases f with
    | func f =>
      simp only at h
      obtain ⟨fn, hf, h⟩ := Option.bind_eq_some_iff.1 h
      split at h
      · obtain ⟨rfl, rfl⟩ := some_pair h; simp [RO.quiet] at hq
      · split at h
        · rename_i hb
          obtain ⟨rfl, rfl⟩ := some_pair h
          simp only [Bool.and_eq_true, beq_iff_eq] at hb
          obtain ⟨⟨hb, hname⟩, horg⟩ := hb
          obtain ⟨h1, h2⟩ := ext_ixb hname horg
          match args, hr with
          | [x, y], hr =>
            have hr : ixB (ρ x) (ρ y) = some v := hr
            obtain ⟨s, c, hx, hy, rfl⟩ := ixB_inv hr
            have := run_callFunc_extern hf (by rw [hname]; decide) hb h1 h2 #[.string s, .int .u8 c] w
            rw [run_indexByte_string] at this
            simp only [Result.andThen_ok] at this
            simp only [execOp, ho, resolve, hρ, List.map_toArray, List.map_cons, List.map_nil, Sem.run_bind, Sem.run_pure, Result.andThen_ok, Deferred.ofValue, invoke, hx, hy, Array.append_empty, Array.empty_append, this]
          | [], hr => simp [rd, rdm, RO.reads] at hr
          | [_], hr => simp [rd, rdm, RO.reads] at hr
          | _ :: _ :: _ :: _, hr => simp [rd, rdm, RO.reads] at hr
        · unfold resExt at h
          split at h
          · rename_i hb
            obtain ⟨rfl, rfl⟩ := some_pair h
            simp only [Bool.and_eq_true, beq_iff_eq] at hb
            obtain ⟨⟨hb, hname⟩, horg⟩ := hb
            obtain ⟨h1, h2⟩ := ext_nes hname horg
            match args, hr with
            | [x], hr =>
              have hr : some (ρ x) = some v := hr
              simp only [Option.some.injEq] at hr
              have := run_callFunc_extern hf (by rw [hname]; decide) hb h1 h2 #[ρ x] w
              rw [show (Extern.AbiNoEscape.same #[ρ x]).run P w = .ok (ρ x) w from rfl] at this
              simp only [Result.andThen_ok] at this
              simp only [execOp, ho, resolve, hρ, List.map_toArray, List.map_cons, List.map_nil, Sem.run_bind, Sem.run_pure, Result.andThen_ok, Deferred.ofValue, invoke, Array.append_empty, Array.empty_append, this]; rw [hr]
            | [], hr => simp [rd, rdp, RO.reads] at hr
            | _ :: _ :: _, hr => simp [rd, rdp, RO.reads] at hr
          · split at h
            · split at h
              · obtain ⟨rfl, rfl⟩ := some_pair h; simp [RO.quiet] at hq
              · cases h
            · split at h
              · rename_i hb
                obtain ⟨rfl, rfl⟩ := some_pair h
                simp only [Bool.and_eq_true, beq_iff_eq] at hb
                obtain ⟨⟨hb, hname⟩, horg⟩ := hb
                obtain ⟨h1, h2⟩ := ext_cnt hname horg
                match args, hr with
                | [x, y], hr =>
                  have hr : cntB (ρ x) (ρ y) = some v := hr
                  have := run_callFunc_extern hf (by rw [hname]; decide) hb h1 h2 #[ρ x, ρ y] w
                  rw [cnt_run hr] at this
                  simp only [Result.andThen_ok] at this
                  simp only [execOp, ho, resolve, hρ, List.map_toArray, List.map_cons, List.map_nil, Sem.run_bind, Sem.run_pure, Result.andThen_ok, Deferred.ofValue, invoke, Array.append_empty, Array.empty_append, this]
                | [], hr => simp [rd, rdm, RO.reads] at hr
                | [_], hr => simp [rd, rdm, RO.reads] at hr
                | _ :: _ :: _ :: _, hr => simp [rd, rdm, RO.reads] at hr
              · cases h
    | tmp t => obtain ⟨rfl, rfl⟩ := some_pair h; simp [RO.quiet] at hq
    | _ => cases h
  | builtin b =>
    simp only [resBuiltin] at h
    split at h
    · have := len_quiet (w := w) (ty := o.type) h hr hw
      simp only [execOp, ho, resolve, List.map_toArray, Sem.run_bind, Sem.run_pure, Result.andThen_ok, invoke, builtin, this]
    · unfold resApp at h
      split at h
      · split at h
        · obtain ⟨i, hi, h⟩ := Option.bind_eq_some_iff.1 h
          obtain ⟨z, hz, h⟩ := Option.bind_eq_some_iff.1 h
          split at h
          · obtain ⟨rfl, rfl⟩ := some_pair h; simp [RO.quiet] at hq
          · cases h
        · obtain ⟨i, hi, h⟩ := Option.bind_eq_some_iff.1 h
          split at h
          · obtain ⟨rfl, rfl⟩ := some_pair h; simp [RO.quiet] at hq
          · cases h
        · obtain ⟨i, hi, h⟩ := Option.bind_eq_some_iff.1 h
          obtain ⟨z, hz, h⟩ := Option.bind_eq_some_iff.1 h
          split at h
          · obtain ⟨rfl, rfl⟩ := some_pair h; simp [RO.quiet] at hq
          · cases h
        · cases h
      · cases h
    · unfold resCopy at h
      split at h
      · obtain ⟨i, hi, h⟩ := Option.map_eq_some_iff.1 h
        obtain ⟨rfl, rfl⟩ := Prod.mk.injEq .. ▸ h; simp [RO.quiet] at hq
      · cases h
    · obtain ⟨rfl, rfl⟩ := some_pair h
      have := min_run (P := P) (w := w) (ats := argTypes) (ty := o.type) (args := args.map ρ) hr
      simp only [execOp, ho, resolve, List.map_toArray, Sem.run_bind, Sem.run_pure, Result.andThen_ok, invoke, builtin, this]
    · obtain ⟨rfl, rfl⟩ := some_pair h
      have := max_run (P := P) (w := w) (ats := argTypes) (ty := o.type) (args := args.map ρ) hr
      simp only [execOp, ho, resolve, List.map_toArray, Sem.run_bind, Sem.run_pure, Result.andThen_ok, invoke, builtin, this]
    · unfold resDelete at h
      obtain ⟨z, hz, h⟩ := Option.map_eq_some_iff.1 h
      obtain ⟨rfl, rfl⟩ := Prod.mk.injEq .. ▸ h; simp [RO.quiet] at hq
    · unfold resClear at h
      split at h
      · obtain ⟨z, hz, h⟩ := Option.map_eq_some_iff.1 h
        obtain ⟨rfl, rfl⟩ := Prod.mk.injEq .. ▸ h; simp [RO.quiet] at hq
      · obtain ⟨rfl, rfl⟩ := some_pair h; simp [RO.quiet] at hq
      · cases h
    · have := cap_quiet (w := w) (ty := o.type) h hr
      simp only [execOp, ho, resolve, List.map_toArray, Sem.run_bind, Sem.run_pure, Result.andThen_ok, invoke, builtin, this]
    · obtain ⟨rfl, rfl⟩ := some_pair h
      match args, hr with
      | [x], hr =>
        have hr : datS (ρ x) = some v := hr
        have : (Builtin.unsafeSliceData_ argTypes o.type #[ρ x]).run P w = .ok v w := by
          unfold datS at hr
          split at hr
          · rename_i hx; simp only [Option.some.injEq] at hr; subst hr; rw [hx]; rfl
          · rename_i a n c hx
            split at hr
            · cases hr
            · rename_i hc
              simp only [Option.some.injEq] at hr; subst hr; rw [hx]
              obtain ⟨k, rfl⟩ : ∃ k, c = k + 1 := ⟨c - 1, by omega⟩
              rfl
          · cases hr
        simp only [execOp, ho, resolve, List.map_toArray, List.map_cons, List.map_nil, Sem.run_bind, Sem.run_pure, Result.andThen_ok, invoke, builtin, this]
      | [], hr => simp [rd, rdm, RO.reads] at hr
      | _ :: _ :: _, hr => simp [rd, rdm, RO.reads] at hr
    · unfold resUst at h
      split at h
      · split at h
        · obtain ⟨rfl, rfl⟩ := some_pair h; simp [RO.quiet] at hq
        · cases h
      · cases h
    · cases h
theorem run_places : ∀ (fs : List Field), (fs.all fun f => (P.info? f.type).isSome) = true → (fs.mapM (fun f => do pure (f.offset, ← Go.sizeOf f.type) : Field → Sem (Nat × Nat))).run P w = .ok (fs.map fun f => (f.offset, ((P.info? f.type).map (·.size)).getD 0)) w
  | [], _ => rfl
  | f :: fs, h => by
    simp only [List.all_cons, Bool.and_eq_true] at h
    obtain ⟨i, hi⟩ := Option.isSome_iff_exists.1 h.1
    have ih := run_places fs h.2
    simp only [List.mapM_cons, Sem.run_bind, run_sizeOf' hi, Result.andThen_ok, Sem.run_pure, ih, List.map_cons, hi, Option.map_some, Option.getD_some]
theorem places_map {fields : Array Field} : ∀ {l : List Nat} {ps : List (Nat × Nat)}, placesOf P l fields = some ps →
    (l.map fun i => (fields.map fun f => (f.offset, ((P.info? f.type).map (·.size)).getD 0))[i]?) = ps.map some
  | [], ps, h => by simp only [placesOf, List.mapM_nil, pure, Option.some.injEq] at h; subst h; rfl
  | i :: l, ps, h => by
    simp only [placesOf, List.mapM_cons, bind, pure, Option.bind_eq_some_iff, Option.some.injEq] at h
    obtain ⟨p, ⟨f, hf, hp⟩, r, hr, rfl⟩ := h
    obtain ⟨j, hj, rfl⟩ := Option.map_eq_some_iff.1 hp
    simp only [List.map_cons, Array.getElem?_map, hf, Option.map_some, hj, Option.getD_some]
    congr 1
    have := places_map (l := l) (ps := r) (by simpa [placesOf, bind, pure] using hr)
    simpa using this
theorem build_quiet {t : TypeId} {parts : List (Nat × Operand)} (h : resBuild P t parts = some (ro, xl)) (hr : rd ro (xl.map ρ) m = some v) :
    (Instr.build t ((parts.map fun (i, x) => (i, ρ x)).toArray)).run P w = .ok v w := by
  unfold resBuild at h
  obtain ⟨⟨z, n⟩, hz, h⟩ := Option.bind_eq_some_iff.1 h
  unfold zeroOf at hz
  obtain ⟨i, hi, hz⟩ := Option.bind_eq_some_iff.1 hz
  obtain ⟨z', hz', e⟩ := Option.map_eq_some_iff.1 hz
  simp only [Prod.mk.injEq] at e
  obtain ⟨rfl, rfl⟩ := e
  have hzero : (zeroValue t).run P w = .ok z' w := by simp [zeroValue, run_typeInfo' hi, hz']
  split at h
  · rename_i fields hu
    split at h
    case isFalse => cases h
    rename_i hf
    obtain ⟨ps, hps, h⟩ := Option.map_eq_some_iff.1 h
    obtain ⟨rfl, rfl⟩ := Prod.mk.injEq .. ▸ h
    obtain ⟨l, hl, rfl⟩ := Option.map_eq_some_iff.1 hr
    have hpl := run_places (P := P) (w := w) fields.toList (by
      unfold fieldsIn at hf
      rw [← Array.all_toList] at hf
      exact hf)
    have hm := places_map hps
    have hfill := fill_lay (fun i : Nat => (fields.map fun f => (f.offset, ((P.info? f.type).map (·.size)).getD 0))[i]?) (parts.map fun (i, x) => (i, ρ x)) ps z'.cells l
      (by rw [List.map_map, ← hm, List.map_map]; rfl) (by rw [List.map_map]; rw [List.map_map] at hl; exact hl)
    simp only [Instr.build, Sem.run_bind, hzero, Result.andThen_ok, run_underlying' hu]
    rw [Array.mapM_eq_mapM_toList]
    simp only [Sem.run_map, hpl, Result.andThen_ok]
    have e1 : (fun i : Nat => (List.map (fun f => (f.offset, ((P.info? f.type).map (·.size)).getD 0)) fields.toList).toArray[i]?) = fun i : Nat => (fields.map fun f => (f.offset, ((P.info? f.type).map (·.size)).getD 0))[i]? := by
      funext i; simp
    rw [e1]
    simp only [hfill] at *
    first | rfl | (rw [hfill]; rfl)
  · rename_i k e hu
    obtain ⟨j, hj, h⟩ := Option.map_eq_some_iff.1 h
    obtain ⟨rfl, rfl⟩ := Prod.mk.injEq .. ▸ h
    obtain ⟨l, hl, rfl⟩ := Option.map_eq_some_iff.1 hr
    have hfill := fill_lay (fun i => some (i * j.size, j.size)) (parts.map fun (i, x) => (i, ρ x)) (parts.map fun p => (p.1 * j.size, j.size)) z'.cells l
      (by simp [List.map_map]) (by rw [List.map_map]; rw [List.map_map] at hl; exact hl)
    simp [Instr.build, hzero, run_underlying' hu, run_sizeOf' hj, hfill]
  · cases h
theorem lookup_quiet {t : TypeId} {x i : Operand} {ok : Bool} (h : resLookup P t x i ok = some (ro, xl)) (hr : rd ro (xl.map ρ) m = some v) (hw : absM w = m) : (Instr.lookup t (ρ x) (ρ i) ok).run P w = .ok v w := by
  unfold resLookup at h
  obtain ⟨⟨ag, ks, e⟩, hk, h⟩ := Option.bind_eq_some_iff.1 h
  obtain ⟨z, hz, h⟩ := Option.map_eq_some_iff.1 h
  obtain ⟨rfl, rfl⟩ := Prod.mk.injEq .. ▸ h
  unfold resKey at hk
  split at hk
  case h_2 => cases hk
  rename_i k e' hu
  obtain ⟨ks', hl, hk⟩ := Option.map_eq_some_iff.1 hk
  simp only [Prod.mk.injEq] at hk
  obtain ⟨rfl, rfl, rfl⟩ := hk
  unfold zeroOf at hz
  obtain ⟨inf, hi, hz⟩ := Option.bind_eq_some_iff.1 hz
  obtain ⟨z', hz', rfl⟩ := Option.map_eq_some_iff.1 hz
  have hzero : (zeroValue e').run P w = .ok z' w := by simp [zeroValue, run_typeInfo' hi, hz']
  simp only [List.map_cons, List.map_nil, rd, RO.reads, rdm] at hr
  split at hr
  case isFalse => cases hr
  rename_i hok
  obtain ⟨es, he, hr⟩ := Option.bind_eq_some_iff.1 hr
  obtain ⟨r, hf, hr⟩ := Option.map_eq_some_iff.1 hr
  have h1 := checkKey_ok (w := w) (em := es.isEmpty) hl hok
  have h2 := findKey_ok (w := w) hl (keyOk_iff hok).1 hf
  have tail : (do
      Instr.checkKey es.isEmpty 10000 k (ρ i)
      let (v, found) ← match ← Instr.findKey k (ρ i) es.toList with
        | some (_, v) => pure (v, true)
        | none => pure (← zeroValue e', false)
      pure (if ok then .tuple #[v, .bool found] else v) : Sem Value).run P w = .ok v w := by
    simp only [Sem.run_bind, h1, h2, Result.andThen_ok]
    cases r with
    | none =>
      simp only at hr
      simp only [Sem.run_bind, hzero, Result.andThen_ok, Sem.run_pure]
      subst hr; rfl
    | some jv =>
      obtain ⟨j, u⟩ := jv
      simp only at hr
      simp only []
      subst hr; rfl
  unfold entriesOf at he
  split at he
  · rename_i hx
    simp only [Option.some.injEq] at he; subst he
    rw [← tail]
    simp only [Instr.lookup, Sem.run_bind, run_underlying' hu, Result.andThen_ok, hx, Sem.run_pure]
    rfl
  · rename_i b hx
    split at he
    · rename_i es' c hr'
      simp only [Option.some.injEq] at he; subst he
      subst hw
      rw [← tail]
      simp only [Instr.lookup, Sem.run_bind, run_underlying' hu, Result.andThen_ok, hx, run_getObj_map hr', Sem.run_pure]
      rfl
    · cases he
  · cases he
theorem bytes_run {a : Addr} {n : Nat} {l : List Value} (h : ldCells m a 0 n = some l) {bs : List UInt8} (hb : bytesIn l = some bs) (hw : absM w = m) {k : Nat} : (Conv.bytesToString (.slice (some a) n k)).run P w = .ok (.string ⟨bs.toArray⟩) w := by
  have h1 := run_loadCellsFrom (P := P) hw a n 0 #[] l h
  have go : ∀ (l : List Value) (bs : List UInt8) (s : ByteArray), bytesIn l = some bs →
      (forIn l s (fun c r => do
        let s := r
        let .int .u8 n := c | do { (stuck "bytesToString: byte expected" : Sem Unit); pure (ForInStep.yield s) }
        pure (ForInStep.yield (s.push (UInt8.ofNat n.toNat)))) : Sem ByteArray).run P w = .ok (s ++ ⟨bs.toArray⟩) w := by
    intro l
    induction l with
    | nil =>
      intro bs s hb
      simp only [bytesIn, Option.some.injEq] at hb; subst hb
      have : s ++ ⟨([] : List UInt8).toArray⟩ = s := by apply ByteArray.ext; simp
      rw [this]; simp
    | cons v l ih =>
      intro bs s hb
      unfold bytesIn at hb
      split at hb
      · cases ‹_ :: _ = []›
      · rename_i n r e
        cases e
        obtain ⟨bs', hb', rfl⟩ := Option.map_eq_some_iff.1 hb
        rw [List.forIn_cons]
        simp only [Sem.run_bind, Sem.run_pure, Result.andThen_ok]
        rw [ih bs' _ hb']
        congr 1
        apply ByteArray.ext
        apply Array.ext'
        simp
      · cases hb
  have := go l bs .empty hb
  simp only [Conv.bytesToString, loadCells, Sem.run_bind, h1, Result.andThen_ok]
  rw [← Array.forIn_toList]
  simp at this ⊢
  refine (congrArg (fun r => Result.andThen r fun a w' => .ok (Value.string a) w') this).trans ?_
  simp
theorem getObj_iter {r : Nat} {mm : Option Nat} {a b : Nat} {s : Array Nat} (h : absM w r = some (.mapIter mm a s b)) : (getObj r).run P w = .ok (.mapIter mm a s b) w := by
  have h' : w.heap[r]? = some (.mapIter mm a s b) := h
  simp [getObj, Sem.run, h']
theorem entry_quiet {it : Operand} (hr : rd .ent [ρ it] m = some v) (hw : absM w = m) : (Instr.entry (ρ it)).run P w = .ok v w := by
  obtain ⟨⟨b, o, s⟩, hx, e⟩ := p1_inv hr
  unfold entRead at e
  split at e
  case isFalse => cases e
  rename_i ho
  simp only at ho; subst ho
  split at e
  case h_2 => cases e
  rename_i mb since seen last hb
  split at e
  case h_2 => cases e
  rename_i stamp hs
  split at e
  case h_2 => cases e
  rename_i es clock hm
  split at e
  case isFalse => cases e
  rename_i hc
  obtain ⟨en, he, rfl⟩ := Option.map_eq_some_iff.1 e
  subst hw; subst hc
  simp only [Instr.entry, hx, Sem.run_bind, getObj_iter hb, Result.andThen_ok, hs, run_getObj_map hm, bne_self_eq_false, Bool.false_eq_true, if_false, Sem.run_pure, he]
theorem res_quiet {o : Oper} (h : res P o = some (ro, xl)) (hq : ro.quiet = true) (hr : rd ro (xl.map ρ) m = some v) (hw : absM w = m) (hρ : ∀ f, ρ (.func f) = .func (.func f) #[] #[]) :
    (execOp ρ o).run P w = .ok (.value v) w := by
  have h0 := res_cases h
  clear h
  rcases h0 with h | h
  case inr => cases h; simp [RO.quiet] at hq
  obtain ⟨dst, op, type, pos, after, guard⟩ := o
  cases op <;> simp only [res0, reduceCtorEq] at h
  case call c => exact call_quiet rfl h hq hr hw hρ
  case binOp op t x y u =>
    have := bin_quiet2 (w := w) (by assumption) h hr
    simp only [Sem.run_bind] at this
    simp only [execOp, Sem.run_bind, this]
    rfl
  case move x => obtain ⟨rfl, rfl⟩ := some_pair h; simp only [List.map_cons, List.map_nil, rd, rdp, RO.reads, Option.some.injEq] at hr; subst hr; simp [execOp]
  case assign x => obtain ⟨rfl, rfl⟩ := some_pair h; simp only [List.map_cons, List.map_nil, rd, rdp, RO.reads, Option.some.injEq] at hr; subst hr; simp [execOp]
  case pick c a b =>
    obtain ⟨rfl, rfl⟩ := some_pair h
    obtain ⟨t, hx, e⟩ := b1_inv hr
    simp only [Option.some.injEq] at e; subst e
    cases t <;> simp [execOp, hx, asBool]
  case nilCheck x =>
    obtain ⟨rfl, rfl⟩ := some_pair h
    obtain ⟨a, hx, e⟩ := p1_inv hr
    simp only [Option.some.injEq] at e; subst e
    simp [execOp, hx]
  case fieldAddr s x f =>
    split at h
    · rename_i fields hu
      obtain ⟨fl, hf, h⟩ := Option.bind_eq_some_iff.1 h
      obtain ⟨i, hi, h⟩ := Option.bind_eq_some_iff.1 h
      split at h
      · cases h
      · rename_i hz
        obtain ⟨rfl, rfl⟩ := some_pair h
        obtain ⟨a, hx, e⟩ := p1_inv hr
        simp only [Option.some.injEq] at e; subst e
        simp [execOp, Instr.fieldAt, run_underlying' hu, hf, hx, Instr.sureAddr, fieldPlace, run_sizeOf' hi, hz]
    · cases h
  case indexAddr t x i =>
    split at h
    · rename_i e hu
      obtain ⟨j, hj, h⟩ := Option.map_eq_some_iff.1 h
      obtain ⟨rfl, rfl⟩ := Prod.mk.injEq .. ▸ h
      obtain ⟨a, n, c, hx, e⟩ := s1_inv hr
      obtain ⟨k, i, hi, e⟩ := i1_inv e
      split at e
      · rename_i hb
        cases a with
        | none => simp at e
        | some a =>
          simp only [Option.map_some, Option.some.injEq] at e; subst e
          simp [execOp, Instr.indexAt, run_underlying' hu, hx, hi, asIntOf, run_sizeOf' hj, hb]
      · cases e
    · rename_i n e hu
      obtain ⟨j, hj, h⟩ := Option.map_eq_some_iff.1 h
      obtain ⟨rfl, rfl⟩ := Prod.mk.injEq .. ▸ h
      obtain ⟨a, hx, e⟩ := p1_inv hr
      obtain ⟨k, i, hi, e⟩ := i1_inv e
      split at e
      · rename_i hb
        simp only [Option.some.injEq] at e; subst e
        simp [execOp, Instr.indexAt, run_underlying' hu, hx, hi, asIntOf, run_sizeOf' hj, hb, Instr.sureAddr]
      · cases e
    · cases h
  case load t x =>
    split at h
    · rename_i hp
      obtain ⟨rfl, rfl⟩ := some_pair h
      obtain ⟨a, hx, e⟩ := p1_inv hr
      simp [execOp, Instr.loadAt, hx, Instr.sureAddr, loadVar, isAgg_plain hp, run_load_cell hw e, -run_load]
    · split at h
      · rename_i hp
        obtain ⟨i, hi, h⟩ := Option.map_eq_some_iff.1 h
        obtain ⟨rfl, rfl⟩ := Prod.mk.injEq .. ▸ h
        obtain ⟨a, hx, e⟩ := p1_inv hr
        obtain ⟨l, hl, rfl⟩ := Option.map_eq_some_iff.1 e
        simp [execOp, Instr.loadAt, hx, Instr.sureAddr, loadVar, isAgg_agg hp, run_sizeOf' hi, loadCells, run_loadCellsFrom hw a _ _ _ _ hl]
      · cases h
  case store t a x => obtain ⟨i, hi, h⟩ := Option.map_eq_some_iff.1 h; obtain ⟨rfl, rfl⟩ := Prod.mk.injEq .. ▸ h; simp [RO.quiet] at hq
  case alloc t => obtain ⟨i, hi, h⟩ := Option.map_eq_some_iff.1 h; obtain ⟨rfl, rfl⟩ := Prod.mk.injEq .. ▸ h; simp [RO.quiet] at hq
  case box t x => obtain ⟨rfl, rfl⟩ := some_pair h; simp [RO.quiet] at hq
  case unOp op t x =>
    cases op <;> simp only [resUn, reduceCtorEq] at h
    · split at h
      · obtain ⟨rfl, rfl⟩ := some_pair h
        obtain ⟨k, n, hx, e⟩ := i1_inv hr
        simp only [Option.some.injEq] at e; subst e
        simp [execOp, hx, Op.unary, Op.intArith]
      · cases h
    · split at h
      · obtain ⟨rfl, rfl⟩ := some_pair h
        obtain ⟨k, n, hx, e⟩ := i1_inv hr
        simp only [Option.some.injEq] at e; subst e
        simp [execOp, hx, Op.unary, Op.intBits]
      · cases h
    · obtain ⟨rfl, rfl⟩ := some_pair h
      obtain ⟨b, hx, e⟩ := b1_inv hr
      simp only [Option.some.injEq] at e; subst e
      simp [execOp, hx, Op.unary]
  case convert s d x =>
    split at h
    · rename_i k k' h1 h2
      obtain ⟨rfl, rfl⟩ := some_pair h
      obtain ⟨k0, n, hx, e⟩ := i1_inv hr
      simp only [Option.some.injEq] at e; subst e
      simp [execOp, hx, convert, run_underlying' h1, run_underlying' h2, Conv.intToInt]
    · rename_i h1 h2
      obtain ⟨rfl, rfl⟩ := some_pair h
      obtain ⟨s, hx, e⟩ := z1_inv hr
      simp only [Option.some.injEq] at e; subst e
      simp [execOp, hx, convert, run_underlying' h1, run_underlying' h2]
    · rename_i e h1 h2
      split at h
      · rename_i he
        obtain ⟨rfl, rfl⟩ := some_pair h
        have he' : P.underlying e = some (.int .u8) := he
        obtain ⟨a, n, c, hx, e⟩ := s1_inv hr
        obtain ⟨l, hl, e⟩ := Option.bind_eq_some_iff.1 e
        obtain ⟨bs, hb, rfl⟩ := Option.map_eq_some_iff.1 e
        cases a with
        | none =>
          simp only [ldS, Option.some.injEq] at hl; subst hl
          simp only [bytesIn, Option.some.injEq] at hb; subst hb
          simp only [execOp, hx, convert, Sem.run_bind, run_underlying' h1, run_underlying' h2, Result.andThen_ok, run_underlying' he', Conv.bytesToString, Sem.run_pure]
          rfl
        | some a =>
          simp only [ldS] at hl
          have := bytes_run (P := P) hl hb hw (k := c)
          simp only [execOp, hx, convert, Sem.run_bind, run_underlying' h1, run_underlying' h2, Result.andThen_ok, run_underlying' he', this, Sem.run_pure]
      · cases h
    · rename_i e h1 h2
      split at h
      · obtain ⟨rfl, rfl⟩ := some_pair h; simp [RO.quiet] at hq
      · cases h
    · split at h
      · obtain ⟨rfl, rfl⟩ := some_pair h; simp [RO.quiet] at hq
      · cases h
    · rename_i t h1 h2
      obtain ⟨i, hi, h⟩ := Option.bind_eq_some_iff.1 h
      split at h
      · cases h
      · rename_i hi0
        obtain ⟨rfl, rfl⟩ := some_pair h
        have hr : toU m (ρ x) = some v := hr
        have := toU_run (P := P) hr hw h1 h2 hi hi0
        simp only [execOp, this, Sem.run_bind, Result.andThen_ok, Sem.run_pure]
    · rename_i t h1 h2
      obtain ⟨i, hi, h⟩ := Option.bind_eq_some_iff.1 h
      split at h
      · cases h
      · rename_i hi0
        obtain ⟨rfl, rfl⟩ := some_pair h
        have hr : ofU m t i.size (ρ x) = some v := hr
        have := ofU_run (P := P) hr hw h1 h2 hi hi0
        simp only [execOp, this, Sem.run_bind, Result.andThen_ok, Sem.run_pure]
    · cases h
  case makeInterface xt x =>
    split at h
    · cases h
    · rename_i hif
      obtain ⟨rfl, rfl⟩ := some_pair h
      simp only [List.map_cons, List.map_nil, rd, rdp, RO.reads, Option.some.injEq] at hr; subst hr
      simp only [Bool.or_eq_true, not_or, Bool.not_eq_true, Option.isNone_eq_false_iff] at hif
      obtain ⟨h1, h2⟩ := hif
      obtain ⟨d, hd⟩ := Option.isSome_iff_exists.1 h2
      unfold isIf at h1
      cases d <;> simp [hd] at h1 <;> simp [execOp, Instr.makeInterface, run_underlying' hd]
  case field t x f =>
    split at h
    · rename_i fields hu
      obtain ⟨fl, hf, h⟩ := Option.bind_eq_some_iff.1 h
      split at h
      · rename_i hp
        obtain ⟨rfl, rfl⟩ := some_pair h
        obtain ⟨cs, hx, e⟩ := g1_inv hr
        simp [execOp, Instr.field, run_underlying' hu, hf, hx, asAgg, run_part1 hp e]
      · split at h
        · rename_i hp
          obtain ⟨i, hi, h⟩ := Option.map_eq_some_iff.1 h
          obtain ⟨rfl, rfl⟩ := Prod.mk.injEq .. ▸ h
          obtain ⟨cs, hx, e⟩ := g1_inv hr
          simp only [Option.some.injEq] at e; subst e
          simp [execOp, Instr.field, run_underlying' hu, hf, hx, asAgg, run_parta hp hi]
        · cases h
    · cases h
  case extract x i =>
    obtain ⟨rfl, rfl⟩ := some_pair h
    obtain ⟨vs, hx, e⟩ := t1_inv hr
    simp [execOp, Instr.extract, hx, e]
  case makeSlice t l c =>
    split at h
    · obtain ⟨i, hi, h⟩ := Option.bind_eq_some_iff.1 h
      obtain ⟨z, hz, h⟩ := Option.bind_eq_some_iff.1 h
      split at h
      · obtain ⟨rfl, rfl⟩ := some_pair h; simp [RO.quiet] at hq
      · cases h
    · cases h
  case build t parts =>
    have := build_quiet (w := w) h hr
    obtain ⟨parts⟩ := parts
    simp only [execOp, List.map_toArray, Sem.run_bind, this, Result.andThen_ok, Sem.run_pure]
  case buildSlice t len parts =>
    unfold resBuildSlice at h
    split at h
    · obtain ⟨i, hi, h⟩ := Option.bind_eq_some_iff.1 h
      obtain ⟨z, hz, h⟩ := Option.bind_eq_some_iff.1 h
      split at h
      · obtain ⟨rfl, rfl⟩ := some_pair h; simp [RO.quiet] at hq
      · cases h
    · cases h
  case slice t x lo hi mx =>
    cases mx with
    | none =>
      simp only [Option.isNone_none, if_true] at h
      have := slice_quiet (w := w) h hr
      simp [execOp, this]
    | some mx =>
      simp only [Option.isNone_some, Bool.false_eq_true, if_false] at h
      have := slice3_quiet (w := w) h hr
      simp only [Option.map_some] at this
      simp [execOp, this]
  case index t x i =>
    split at h
    · rename_i n e hu
      split at h
      · rename_i hp
        obtain ⟨j, hj, h⟩ := Option.map_eq_some_iff.1 h
        obtain ⟨rfl, rfl⟩ := Prod.mk.injEq .. ▸ h
        obtain ⟨cs, hx, e⟩ := g1_inv hr
        obtain ⟨k, i, hi, e⟩ := i1_inv e
        split at e
        · rename_i hb
          simp [execOp, Instr.index, hx, hi, asIntOf, run_underlying' hu, hb, run_sizeOf' hj, run_part1 hp e]
        · cases e
      · split at h
        · rename_i hp
          obtain ⟨j, hj, h⟩ := Option.map_eq_some_iff.1 h
          obtain ⟨rfl, rfl⟩ := Prod.mk.injEq .. ▸ h
          obtain ⟨cs, hx, e⟩ := g1_inv hr
          obtain ⟨k, i, hi, e⟩ := i1_inv e
          split at e
          · rename_i hb
            simp only [Option.some.injEq] at e; subst e
            simp [execOp, Instr.index, hx, hi, asIntOf, run_underlying' hu, hb, run_sizeOf' hj, run_parta hp hj]
          · cases e
        · cases h
    · rename_i hu
      obtain ⟨rfl, rfl⟩ := some_pair h
      obtain ⟨s, hx, e⟩ := z1_inv hr
      obtain ⟨k, i, hi, e⟩ := i1_inv e
      split at e
      · rename_i hb
        obtain ⟨b, hb', rfl⟩ := Option.map_eq_some_iff.1 e
        simp [execOp, Instr.index, hx, hi, asIntOf, run_underlying' hu, hb, hb']
      · cases e
    · cases h
  case makeFunc fn first captured =>
    obtain ⟨rfl, rfl⟩ := some_pair h
    have hr : some (Value.func fn (((first.toList ++ captured.toList).map ρ).take first.size).toArray (((first.toList ++ captured.toList).map ρ).drop first.size).toArray) = some v := hr
    simp only [Option.some.injEq] at hr; subst hr
    have e1 : ((first.toList ++ captured.toList).map ρ).take first.size = (first.map ρ).toList := by simp
    have e2 : ((first.toList ++ captured.toList).map ρ).drop first.size = (captured.map ρ).toList := by simp
    rw [e1, e2, Array.toArray_toList, Array.toArray_toList]
    simp only [execOp, Instr.makeFunc, Sem.run_bind, Sem.run_pure, Result.andThen_ok]
  case makeMap t r => 
    split at h
    · obtain ⟨rfl, rfl⟩ := some_pair h; simp [RO.quiet] at hq
    · cases h
  case lookup t x i ok =>
    have := lookup_quiet (w := w) h hr hw
    simp [execOp, this]
  case mapUpdate t a k x => obtain ⟨z, hz, h⟩ := Option.map_eq_some_iff.1 h; obtain ⟨rfl, rfl⟩ := Prod.mk.injEq .. ▸ h; simp [RO.quiet] at hq
  case insert t a k x => obtain ⟨z, hz, h⟩ := Option.map_eq_some_iff.1 h; obtain ⟨rfl, rfl⟩ := Prod.mk.injEq .. ▸ h; simp [RO.quiet] at hq
  case range t x =>
    split at h
    · obtain ⟨rfl, rfl⟩ := some_pair h; simp [RO.quiet] at hq
    · cases h
  case next it isS =>
    split at h
    · cases h
    · obtain ⟨rfl, rfl⟩ := some_pair h; simp [RO.quiet] at hq
  case entry it =>
    obtain ⟨rfl, rfl⟩ := some_pair h
    have := entry_quiet (P := P) hr hw
    simp only [execOp, Sem.run_bind, this, Result.andThen_ok, Sem.run_pure]
end sound
end Go.Fw
