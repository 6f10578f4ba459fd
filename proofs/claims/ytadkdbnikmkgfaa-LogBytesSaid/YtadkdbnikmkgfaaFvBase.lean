import Derived.Orders
import Derived.Tactics
import Derived.Laws.Sem
import Derived.Laws.World
import Derived.Laws.Entries
import GoSem.Dispatch
import GoSem.Op.String
/-! Memory as a function of blocks; what an operation does, on values. -/
namespace Go.Fw


abbrev Mem := Nat → Option Obj
def absM (w : World) : Mem := fun b => w.heap[b]?
def Mem.set (m : Mem) (b : Nat) (o : Obj) : Mem := fun x => if x = b then some o else m x

structure Side (w w' : World) : Prop where
  os : w'.os = w.os
  out : w'.output = w.output
  size : w.heap.size ≤ w'.heap.size
  tape : w'.tape = w.tape
  drawn : w.drawn ≤ w'.drawn

theorem Side.rfl' (w : World) : Side w w := ⟨rfl, rfl, Nat.le_refl _, rfl, Nat.le_refl _⟩
theorem Side.trans {a b c : World} (h : Side a b) (g : Side b c) : Side a c := ⟨g.os.trans h.os, g.out.trans h.out, Nat.le_trans h.size g.size, g.tape.trans h.tape, Nat.le_trans h.drawn g.drawn⟩

/-- The contract of a function. -/
def MC (P : Program) (f : Nat) (args : List Value) (m : Mem) (R : Value → Mem → Prop) : Prop :=
  ∀ w, absM w = m → Calls P f args.toArray w fun e w' => ∃ v, e = .returned v ∧ Side w w' ∧ R v (absM w')

def callable (P : Program) (g : Nat) : Bool := match P.funcs[g]? with | some fn => fn.body.isSome && fn.name != "runtime.NumGoroutine" | none => false
theorem MC.mono {P : Program} {f : Nat} {args : List Value} {m : Mem} {R R' : Value → Mem → Prop} (h : MC P f args m R) (hr : ∀ v m', R v m' → R' v m') : MC P f args m R' :=
  fun w hw => (h w hw).mono fun _ _ ⟨v, he, hs, hR⟩ => ⟨v, he, hs, hr _ _ hR⟩

def cell (m : Mem) (a : Addr) : Option Value :=
  match m a.block with
  | some (.cells c _ _) => if a.spot.isSome then none else c[a.off]?
  | _ => none
def frz (m : Mem) (a : Addr) : Bool :=
  match m a.block with
  | some (.cells _ _ (lo, hi)) => lo ≤ a.off && a.off < hi
  | _ => false
theorem cell_abs (w : World) (a : Addr) : cell (absM w) a = w.cell? a := rfl
theorem frz_abs (w : World) (a : Addr) : frz (absM w) a = w.frozen? a := rfl

/-- One cell is written. -/
def putC (m : Mem) (a : Addr) (v : Value) : Option Mem :=
  match m a.block with
  | some (.cells c t fr) => if a.spot.isSome || !(a.off < c.size) || (fr.1 ≤ a.off && a.off < fr.2) then none else some (m.set a.block (.cells (c.setIfInBounds a.off v) t fr))
  | _ => none

def ldCells (m : Mem) (a : Addr) : Nat → Nat → Option (List Value)
  | _, 0 => some []
  | i, n + 1 => (cell m (a.add i)).bind fun v => (ldCells m a (i + 1) n).map (v :: ·)
def stCells (m : Mem) (a : Addr) : Nat → List Value → Option Mem
  | _, [] => some m
  | i, v :: r => if v.oneCell' then (putC m (a.add i) v).bind fun m' => stCells m' a (i + 1) r else none

/-! ### what is held against what: leaves -/
inductive LK where
  | b | i (k : IntKind) | s
  deriving Inhabited, DecidableEq
def le1 : LK → Value → Value → Option Bool
  | .b, .bool a, .bool b => some (a == b)
  | .i k, .int k1 a, .int k2 b => if k1 = k ∧ k2 = k then some (a == b) else none
  | .s, .string a, .string b => some (a.data.toList == b.data.toList)
  | _, _, _ => none
def leafEq : List LK → List Value → List Value → Option Bool
  | [], [], [] => some true
  | k :: ks, x :: xs, y :: ys => (le1 k x y).bind fun b => (leafEq ks xs ys).map (b && ·)
  | _, _, _ => none

/-! ### the operations, resolved -/
inductive RO where
  | bad | zid
  | mv | pick | nilck
  | fld (off : Nat)
  | ixs (size : Nat) | ixa (len size : Nat)
  | ld | lda (n : Nat)
  | prt (off : Nat) | prta (off n : Nat)
  | idx (len size : Nat) | idxa (len size : Nat) | idxs
  | bld (zero : List Value) (places : List (Nat × Nat))
  | ext (i : Nat)
  | iar (op : BinOp) | idv (op : BinOp) | ibt (op : BinOp) | ish (op : BinOp) | icm (op : BinOp)
  | beq (ng : Bool) | str (op : BinOp) | eqp (ng : Bool) | eqs (ng : Bool) | eqm (ng : Bool) | eqc (ng : Bool) (ks : List LK)
  | not | neg | cpl
  | conv (k : IntKind)
  | slc (size : Nat) (lo hi : Bool) | slc3 (size : Nat) (lo : Bool) | slcs (lo hi : Bool) | sla (len size : Nat) (lo hi : Bool)
  | len | lenz | lenk (n : Nat) | lenm | cap
  | mn | mx
  | mkf (fn : Fn) (nfirst : Nat) | mki (t : TypeId)
  | lkp (ag : Bool) (ks : List LK) (zero : Value) (ok : Bool)
  | b2s
  | st (n : Nat)
  | alc (zero : List Value) (t : TypeId) | box (t : TypeId)
  | bsl (t : TypeId) (len : Nat) (zero : List Value) (places : List (Nat × Nat))
  | mks (t : TypeId) (bytes : Nat) (zero : List Value)
  | app (t : TypeId) (size bytes : Nat) (zero : List Value)
  | apps (t : TypeId)
  | cpy (size : Nat)
  | mkm
  | mup (ag : Bool) (ks : List LK)
  | dlt (ag : Bool) (ks : List LK)
  | clr (zero : List Value) | clrm
  | rng | nxt | ent
  | s2b (t : TypeId)
  | call (f : Nat)
  | callv
  deriving Inhabited

/-- Does it neither write nor make memory? -/
def RO.quiet : RO → Bool
  | .bad | .st _ | .alc .. | .box _ | .bsl .. | .mks .. | .app .. | .apps _ | .cpy _ | .mkm | .mup .. | .dlt .. | .clr .. | .clrm | .rng | .nxt | .s2b _ | .call _ | .callv => false
  | _ => true
/-- Does what it yields hang on memory? -/
def RO.reads : RO → Bool
  | .ld | .lda _ | .lenm | .lkp .. | .b2s | .ent => true
  | _ => false

def cutB (s : ByteArray) (lo hi : Int) : Option ByteArray := if 0 ≤ lo ∧ lo ≤ hi ∧ hi ≤ s.size then some (s.extract lo.toNat hi.toNat) else none
def cutS (size : Nat) (a : Option Addr) (cap : Nat) (lo hi : Int) : Option Value :=
  if 0 ≤ lo ∧ lo ≤ hi ∧ hi ≤ cap then some (.slice (if cap = lo.toNat then a else a.map (·.add (lo.toNat * size))) (hi.toNat - lo.toNat) (cap - lo.toNat)) else none

/-- a value's cells -/
def vcl : Value → List Value
  | .agg cs => cs.toList
  | v => [v]
theorem vcl_eq (v : Value) : vcl v = v.cells.toList := by cases v <;> rfl
/-- cells laid over others, from a place on -/
def spl : Nat → List Value → List Value → Option (List Value)
  | 0, [], cs => some cs
  | 0, v :: vs, _ :: cs => (spl 0 vs cs).map (v :: ·)
  | n + 1, vs, c :: cs => (spl n vs cs).map (c :: ·)
  | _, _, _ => none
/-- a build's parts laid into its cells -/
def lay (cells : List Value) : List (Nat × Nat) → List Value → Option (List Value)
  | [], [] => some cells
  | (off, size) :: ps, v :: vs => if (vcl v).length = size then (spl off (vcl v) cells).bind fun cs => lay cs ps vs else none
  | _, _ => none
/-- what a slice's first elements are -/
def ldS (m : Mem) (a : Option Addr) (n : Nat) : Option (List Value) := match a with | some a => ldCells m a 0 n | none => some []

/-! readers of values -/
def i2 (f : IntKind → Int → Int → Option Value) : Value → Value → Option Value
  | .int k a, .int k' b => if k = k' then f k a b else none
  | _, _ => none
def j2 (f : IntKind → Int → Int → Option Value) : Value → Value → Option Value
  | .int k a, .int _ b => f k a b
  | _, _ => none
def i1 (f : IntKind → Int → Option Value) : Value → Option Value
  | .int k a => f k a
  | _ => none
def b2 (f : Bool → Bool → Option Value) : Value → Value → Option Value
  | .bool a, .bool b => f a b
  | _, _ => none
def b1 (f : Bool → Option Value) : Value → Option Value
  | .bool a => f a
  | _ => none
def p1 (f : Addr → Option Value) : Value → Option Value
  | .pointer (some a) => f a
  | _ => none
def g1 (f : Array Value → Option Value) : Value → Option Value
  | .agg cs => f cs
  | _ => none
def t1 (f : Array Value → Option Value) : Value → Option Value
  | .tuple cs => f cs
  | _ => none
def s1 (f : Option Addr → Nat → Nat → Option Value) : Value → Option Value
  | .slice a n c => f a n c
  | _ => none
def z1 (f : ByteArray → Option Value) : Value → Option Value
  | .string s => f s
  | _ => none
def z2 (f : ByteArray → ByteArray → Option Value) : Value → Value → Option Value
  | .string s, .string u => f s u
  | _, _ => none
def eqp (ng : Bool) : Value → Value → Option Value
  | .pointer a, .pointer none => some (.bool (if ng then a.isSome else a.isNone))
  | _, _ => none
def eqs (ng : Bool) : Value → Value → Option Value
  | .slice a _ _, .slice none _ _ => some (.bool (if ng then a.isSome else a.isNone))
  | _, _ => none
def eqm (ng : Bool) : Value → Value → Option Value
  | .map a, .map none => some (.bool (if ng then a.isSome else a.isNone))
  | _, _ => none
/-- the lesser, the greater -/
def mn2 : Value → Value → Option Value
  | .int k a, .int k' b => if k = k' then some (.int k (if b < a then b else a)) else none
  | .string a, .string b => some (.string (if Op.bytesLess a.data.toList b.data.toList || a.data.toList == b.data.toList then a else b))
  | _, _ => none
def mx2 : Value → Value → Option Value
  | .int k a, .int k' b => if k = k' then some (.int k (if a < b then b else a)) else none
  | _, _ => none
def fold2 (f : Value → Value → Option Value) : Value → List Value → Option Value
  | v, [] => some v
  | v, x :: r => (f v x).bind fun u => fold2 f u r
def cutA (size : Nat) (a : Addr) (cap : Nat) (lo hi : Int) : Option Value :=
  if 0 ≤ lo ∧ lo ≤ hi ∧ hi ≤ cap then some (.slice (some (if cap = lo.toNat then a else a.add (lo.toNat * size))) (hi.toNat - lo.toNat) (cap - lo.toNat)) else none
def cut3 (size : Nat) (a : Option Addr) (cap : Nat) (lo hi mx : Int) : Option Value :=
  if 0 ≤ lo ∧ lo ≤ hi ∧ hi ≤ mx ∧ mx ≤ cap then some (.slice (if mx.toNat = lo.toNat then a else a.map (·.add (lo.toNat * size))) (hi.toNat - lo.toNat) (mx.toNat - lo.toNat)) else none
def cutZ (s : ByteArray) (lo hi : Int) : Option Value := (cutB s lo hi).map .string
def rdp (ro : RO) (args : List Value) : Option Value :=
  match ro, args with
  | .mv, [v] => some v
  | .pick, [c, a, b] => b1 (fun c => some (if c then a else b)) c
  | .nilck, [x] => p1 (fun a => some (.pointer (some a))) x
  | .fld off, [x] => p1 (fun a => some (.pointer (some (a.add off)))) x
  | .ixs size, [x, i] => s1 (fun a len _ => i1 (fun _ i => if 0 ≤ i ∧ i < len then a.map fun a => .pointer (some (a.add (i.toNat * size))) else none) i) x
  | .ixa len size, [x, i] => p1 (fun a => i1 (fun _ i => if 0 ≤ i ∧ i < len then some (.pointer (some (a.add (i.toNat * size)))) else none) i) x
  | .prt off, [x] => g1 (fun cs => cs[off]?) x
  | .prta off n, [x] => g1 (fun cs => some (.agg (cs.extract off (off + n)))) x
  | .idx len size, [x, i] => g1 (fun cs => i1 (fun _ i => if 0 ≤ i ∧ i < len then cs[i.toNat * size]? else none) i) x
  | .idxa len size, [x, i] => g1 (fun cs => i1 (fun _ i => if 0 ≤ i ∧ i < len then some (.agg (cs.extract (i.toNat * size) (i.toNat * size + size))) else none) i) x
  | .idxs, [x, i] => z1 (fun s => i1 (fun _ i => if 0 ≤ i then (s[i.toNat]?).map fun b => .int .u8 b.toNat else none) i) x
  | .bld zero places, vs => (lay zero places vs).map fun l => .agg l.toArray
  | .ext i, [x] => t1 (fun vs => vs[i]?) x
  | .iar .add, [x, y] => i2 (fun k a b => some (.int k (k.wrap (a + b)))) x y
  | .iar .sub, [x, y] => i2 (fun k a b => some (.int k (k.wrap (a - b)))) x y
  | .iar .mul, [x, y] => i2 (fun k a b => some (.int k (k.wrap (a * b)))) x y
  | .idv .quo, [x, y] => i2 (fun k a b => if b = 0 then none else some (.int k (k.wrap (a.tdiv b)))) x y
  | .idv .rem, [x, y] => i2 (fun k a b => if b = 0 then none else some (.int k (a.tmod b))) x y
  | .ibt .and, [x, y] => i2 (fun k a b => some (.int k (k.wrap (BitVec.ofInt k.bits a &&& BitVec.ofInt k.bits b).toNat))) x y
  | .ibt .or, [x, y] => i2 (fun k a b => some (.int k (k.wrap (BitVec.ofInt k.bits a ||| BitVec.ofInt k.bits b).toNat))) x y
  | .ibt .xor, [x, y] => i2 (fun k a b => some (.int k (k.wrap (BitVec.ofInt k.bits a ^^^ BitVec.ofInt k.bits b).toNat))) x y
  | .ish .shl, [x, y] => j2 (fun k a b => if b < 0 then none else some (.int k (k.wrap (a * 2 ^ min b.toNat k.bits)))) x y
  | .ish .shr, [x, y] => j2 (fun k a b => if b < 0 then none else some (.int k (a.fdiv (2 ^ min b.toNat k.bits)))) x y
  | .icm .eql, [x, y] => i2 (fun _ a b => some (.bool (a == b))) x y
  | .icm .neq, [x, y] => i2 (fun _ a b => some (.bool (a != b))) x y
  | .icm .lss, [x, y] => i2 (fun _ a b => some (.bool (a < b))) x y
  | .icm .leq, [x, y] => i2 (fun _ a b => some (.bool (a ≤ b))) x y
  | .icm .gtr, [x, y] => i2 (fun _ a b => some (.bool (b < a))) x y
  | .icm .geq, [x, y] => i2 (fun _ a b => some (.bool (b ≤ a))) x y
  | .beq ng, [x, y] => b2 (fun a b => some (.bool (if ng then a != b else a == b))) x y
  | .str .add, [x, y] => z2 (fun a b => if a.size + b.size ≤ 9223372036854775807 then some (.string (a ++ b)) else none) x y
  | .str .eql, [x, y] => z2 (fun a b => some (.bool (a.data.toList == b.data.toList))) x y
  | .str .neq, [x, y] => z2 (fun a b => some (.bool !(a.data.toList == b.data.toList))) x y
  | .str .lss, [x, y] => z2 (fun a b => some (.bool (Op.bytesLess a.data.toList b.data.toList))) x y
  | .str .leq, [x, y] => z2 (fun a b => some (.bool (Op.bytesLess a.data.toList b.data.toList || a.data.toList == b.data.toList))) x y
  | .str .gtr, [x, y] => z2 (fun a b => some (.bool !(Op.bytesLess a.data.toList b.data.toList || a.data.toList == b.data.toList))) x y
  | .str .geq, [x, y] => z2 (fun a b => some (.bool !(Op.bytesLess a.data.toList b.data.toList))) x y
  | .eqc ng ks, [x, y] => g1 (fun xs => g1 (fun ys => (leafEq ks xs.toList ys.toList).map fun b => .bool (if ng then !b else b)) y) x
  | .eqm ng, [x, y] => eqm ng x y
  | .zid, [x] => z1 (fun s => some (.string s)) x
  | .cpl, [x] => i1 (fun k n => some (.int k (k.wrap (BitVec.ofInt k.bits (if k.signed then -1 else k.max) ^^^ BitVec.ofInt k.bits n).toNat))) x
  | .eqp ng, [x, y] => eqp ng x y
  | .eqs ng, [x, y] => eqs ng x y
  | .not, [x] => b1 (fun b => some (.bool !b)) x
  | .neg, [x] => i1 (fun k n => some (.int k (k.wrap (0 - n)))) x
  | .conv k, [x] => i1 (fun _ n => some (.int k (k.wrap n))) x
  | .slc size false false, [x] => s1 (fun a n cap => cutS size a cap 0 n) x
  | .slc size true false, [x, lo] => s1 (fun a n cap => i1 (fun _ lo => cutS size a cap lo n) lo) x
  | .slc size false true, [x, hi] => s1 (fun a _ cap => i1 (fun _ hi => cutS size a cap 0 hi) hi) x
  | .slc size true true, [x, lo, hi] => s1 (fun a _ cap => j2 (fun _ lo hi => cutS size a cap lo hi) lo hi) x
  | .len, [x] => s1 (fun _ n _ => some (.int .i64 n)) x
  | .lenz, [x] => z1 (fun s => some (.int .i64 s.size)) x
  | .lenk n, [_] => some (.int .i64 n)
  | .cap, [x] => s1 (fun _ _ c => some (.int .i64 c)) x
  | .slc3 size false, [x, hi, mx] => s1 (fun a _ cap => j2 (fun _ hi mx => cut3 size a cap 0 hi mx) hi mx) x
  | .slc3 size true, [x, lo, hi, mx] => s1 (fun a _ cap => i1 (fun _ lo => j2 (fun _ hi mx => cut3 size a cap lo hi mx) hi mx) lo) x
  | .slcs false false, [x] => z1 (fun s => cutZ s 0 s.size) x
  | .slcs true false, [x, lo] => z1 (fun s => i1 (fun _ lo => cutZ s lo s.size) lo) x
  | .slcs false true, [x, hi] => z1 (fun s => i1 (fun _ hi => cutZ s 0 hi) hi) x
  | .slcs true true, [x, lo, hi] => z1 (fun s => j2 (fun _ lo hi => cutZ s lo hi) lo hi) x
  | .sla n size false false, [x] => p1 (fun a => cutA size a n 0 n) x
  | .sla n size true false, [x, lo] => p1 (fun a => i1 (fun _ lo => cutA size a n lo n) lo) x
  | .sla n size false true, [x, hi] => p1 (fun a => i1 (fun _ hi => cutA size a n 0 hi) hi) x
  | .sla n size true true, [x, lo, hi] => p1 (fun a => j2 (fun _ lo hi => cutA size a n lo hi) lo hi) x
  | .mn, x :: r => fold2 mn2 x r
  | .mx, x :: r => fold2 mx2 x r
  | .mkf fn n, vs => some (.func fn (vs.take n).toArray (vs.drop n).toArray)
  | .mki t, [v] => some (.iface t v)
  | _, _ => none
/-- does a key fit? -/
def keyFit (ag : Bool) : Value → Bool
  | .agg _ => ag
  | .tuple _ => false
  | _ => !ag
def keyOk (ag : Bool) (ks : List LK) (k : Value) : Bool := keyFit ag k && (leafEq ks (vcl k) (vcl k)).isSome
def findE (ag : Bool) (ks : List LK) (k : Value) : List MapEntry → Nat → Option (Option (Nat × Value))
  | [], _ => some none
  | e :: es, i => if keyFit ag e.key then (leafEq ks (vcl k) (vcl e.key)).bind fun b => if b then some (some (i, e.val)) else findE ag ks k es (i + 1) else none
def entriesOf (m : Mem) : Value → Option (Array MapEntry)
  | .map none => some #[]
  | .map (some r) => match m r with | some (.map es _) => some es | _ => none
  | _ => none
/-- the entry that an iterator stands at -/
def entRead (m : Mem) (a : Addr) : Option Value :=
  if a.off = 0 then
    match m a.block with
    | some (.mapIter (some b) _ seen last) =>
      match seen.back? with
      | some stamp =>
        match m b with
        | some (.map es clock) => if clock = last then (es.find? (·.born == stamp)).map fun e => .tuple #[e.key, e.val] else none
        | _ => none
      | none => none
    | _ => none
  else none
def bytesIn : List Value → Option (List UInt8)
  | [] => some []
  | .int .u8 n :: r => (bytesIn r).map (UInt8.ofNat n.toNat :: ·)
  | _ => none
def rdm (ro : RO) (args : List Value) (m : Mem) : Option Value :=
  match ro, args with
  | .lenm, [x] => (entriesOf m x).map fun es => .int .i64 es.size
  | .lkp ag ks zero ok, [x, k] => if keyOk ag ks k then (entriesOf m x).bind fun es => (findE ag ks k es.toList 0).map fun r =>
      match r with
      | some (_, v) => if ok then .tuple #[v, .bool true] else v
      | none => if ok then .tuple #[zero, .bool false] else zero
    else none
  | .b2s, [x] => s1 (fun a n _ => (ldS m a n).bind fun l => (bytesIn l).map fun bs => .string ⟨bs.toArray⟩) x
  | .ent, [x] => p1 (entRead m) x
  | .ld, [x] => p1 (fun a => cell m a) x
  | .lda n, [x] => p1 (fun a => (ldCells m a 0 n).map fun l => .agg l.toArray) x
  | _, _ => none
def rd (ro : RO) (args : List Value) (m : Mem) : Option Value := match ro.reads with | true => rdm ro args m | false => rdp ro args

def pP (f : Addr → Prop) : Value → Prop
  | .pointer (some a) => f a
  | _ => False
def iP (f : Int → Prop) : Value → Prop
  | .int .i64 n => f n
  | _ => False
def sP (f : Option Addr → Nat → Nat → Prop) : Value → Prop
  | .slice a n c => f a n c
  | _ => False
def zP (f : ByteArray → Prop) : Value → Prop
  | .string s => f s
  | _ => False
theorem sP_inv {f : Option Addr → Nat → Nat → Prop} {v : Value} (h : sP f v) : ∃ a n c, v = .slice a n c ∧ f a n c := by
  unfold sP at h
  split at h
  · exact ⟨_, _, _, rfl, h⟩
  · exact h.elim
theorem zP_inv {f : ByteArray → Prop} {v : Value} (h : zP f v) : ∃ a, v = .string a ∧ f a := by
  unfold zP at h
  split at h
  · exact ⟨_, rfl, h⟩
  · exact h.elim
theorem sP_mono {f g : Option Addr → Nat → Nat → Prop} {v : Value} (h : ∀ a b c, f a b c → g a b c) (hh : sP f v) : sP g v := by obtain ⟨a, b, c, rfl, h'⟩ := sP_inv hh; exact h _ _ _ h'
theorem zP_mono {f g : ByteArray → Prop} {v : Value} (h : ∀ a, f a → g a) (hh : zP f v) : zP g v := by obtain ⟨a, rfl, h'⟩ := zP_inv hh; exact h _ h'
/-- an append: in the room that is there, or into a new row -/
def appP (size bytes : Nat) (zero : List Value) (t : TypeId) (m : Mem) (K : Value → Mem → Prop) (base : Option Addr) (n cap : Nat) (news : List Value) (k : Nat) : Prop :=
  (n + k) * bytes ≤ 140737488355328 ∧ n + k ≤ 4611686018427387904 ∧
  (n + k ≤ cap → match base with
    | some a => ∃ m', stCells m a (n * size) news = some m' ∧ K (.slice (some a) (n + k) cap) m'
    | none => K (.slice none (n + k) cap) m) ∧
  (cap < n + k → ∃ old, ldS m base (n * size) = some old ∧
    ∀ c b, n + k ≤ c → m b = none → K (.slice (some ⟨b, 0, none⟩) (n + k) c) (m.set b (.cells (old ++ news ++ (List.replicate (c - (n + k)) zero).flatten).toArray t)))
theorem appP_mono {size bytes : Nat} {zero : List Value} {t : TypeId} {m : Mem} {K K' : Value → Mem → Prop} {base : Option Addr} {n cap : Nat} {news : List Value} {k : Nat} (h : ∀ v m, K v m → K' v m)
    (hh : appP size bytes zero t m K base n cap news k) : appP size bytes zero t m K' base n cap news k := by
  obtain ⟨h1, h2, h3, h4⟩ := hh
  refine ⟨h1, h2, fun hc => ?_, fun hc => ?_⟩
  · have := h3 hc
    cases base with
    | none => exact h _ _ this
    | some a => obtain ⟨m', e, hk⟩ := this; exact ⟨m', e, h _ _ hk⟩
  · obtain ⟨old, e, hk⟩ := h4 hc
    exact ⟨old, e, fun c b hb hn => h _ _ (hk c b hb hn)⟩
def fP (f : Nat → List Value → List Value → Prop) : Value → Prop
  | .func (.func g) first captured => f g first.toList captured.toList
  | _ => False
theorem pP_inv {f : Addr → Prop} {v : Value} (h : pP f v) : ∃ a, v = .pointer (some a) ∧ f a := by
  unfold pP at h
  split at h
  · exact ⟨_, rfl, h⟩
  · exact h.elim
theorem iP_inv {f : Int → Prop} {v : Value} (h : iP f v) : ∃ a, v = .int .i64 a ∧ f a := by
  unfold iP at h
  split at h
  · exact ⟨_, rfl, h⟩
  · exact h.elim
theorem fP_inv {f : Nat → List Value → List Value → Prop} {v : Value} (h : fP f v) : ∃ g a c, v = .func (.func g) a c ∧ f g a.toList c.toList := by
  unfold fP at h
  split at h
  · exact ⟨_, _, _, rfl, h⟩
  · exact h.elim

theorem pP_mono {f g : Addr → Prop} {v : Value} (h : ∀ a, f a → g a) (hh : pP f v) : pP g v := by obtain ⟨a, rfl, h'⟩ := pP_inv hh; exact h _ h'
theorem iP_mono {f g : Int → Prop} {v : Value} (h : ∀ a, f a → g a) (hh : iP f v) : iP g v := by obtain ⟨a, rfl, h'⟩ := iP_inv hh; exact h _ h'
theorem fP_mono {f g : Nat → List Value → List Value → Prop} {v : Value} (h : ∀ a b c, f a b c → g a b c) (hh : fP f v) : fP g v := by obtain ⟨a, b, c, rfl, h'⟩ := fP_inv hh; exact h _ _ _ h'

def mP (f : Option Nat → Prop) : Value → Prop
  | .map r => f r
  | _ => False
theorem mP_inv {f : Option Nat → Prop} {v : Value} (h : mP f v) : ∃ r, v = .map r ∧ f r := by
  unfold mP at h
  split at h
  · exact ⟨_, rfl, h⟩
  · exact h.elim
theorem mP_mono {f g : Option Nat → Prop} {v : Value} (h : ∀ r, f r → g r) (hh : mP f v) : mP g v := by obtain ⟨r, rfl, h'⟩ := mP_inv hh; exact h _ h'
/-- an entry is laid -/
def mupP (ag : Bool) (ks : List LK) (m : Mem) (K : Value → Mem → Prop) (r : Nat) (k v : Value) : Prop :=
  keyOk ag ks k = true ∧ ∃ es clock, m r = some (.map es clock) ∧ ∃ o, findE ag ks k es.toList 0 = some o ∧
    match o with
    | some (i, _) => K undef (m.set r (.map (es.modify i fun e => { e with key := k, val := v }) clock))
    | none => K undef (m.set r (.map (es.push { key := k, val := v, born := clock }) (clock + 1)))
def dltP (ag : Bool) (ks : List LK) (m : Mem) (K : Value → Mem → Prop) (k : Value) : Option Nat → Prop
  | none => keyOk ag ks k = true ∧ K (.tuple #[]) m
  | some r => keyOk ag ks k = true ∧ ∃ es clock, m r = some (.map es clock) ∧ ∃ o, findE ag ks k es.toList 0 = some o ∧
    match o with
    | some (i, _) => K (.tuple #[]) (m.set r (.map (es.eraseIdxIfInBounds i) clock))
    | none => K (.tuple #[]) (m.set r (.map es clock))
def rngP (m : Mem) (K : Value → Mem → Prop) : Option Nat → Prop
  | none => ∀ b, m b = none → K (.pointer (some ⟨b, 0, none⟩)) (m.set b (.mapIter none 0 #[] 0))
  | some r => ∃ es clock, m r = some (.map es clock) ∧ ∀ b, m b = none → K (.pointer (some ⟨b, 0, none⟩)) (m.set b (.mapIter (some r) clock #[] clock))
/-- the next entry: any that was not seen yet; none, when all that were there at the beginning are seen -/
def nxtP (m : Mem) (K : Value → Mem → Prop) (a : Addr) : Prop :=
  a.off = 0 ∧ ∃ r since seen last, m a.block = some (.mapIter r since seen last) ∧
    match r with
    | none => K (.tuple #[.bool false]) m
    | some b => ∃ es clock, m b = some (.map es clock) ∧ (!seen.isEmpty && !es.isEmpty && es.all (·.born ≥ last)) = false ∧
      ((∀ e ∈ es.toList, seen.contains e.born = false → ¬ e.born < since) → K (.tuple #[.bool false]) m) ∧
      ∀ e ∈ es.toList, seen.contains e.born = false → K (.tuple #[.bool true, e.key, e.val]) (m.set a.block (.mapIter (some b) since (seen.push e.born) clock))
def clrP (zero : List Value) (m : Mem) (K : Value → Mem → Prop) : Option Addr → Nat → Nat → Prop
  | none, _, _ => K (.tuple #[]) m
  | some a, n, _ => ∃ m', stCells m a 0 (List.replicate n zero).flatten = some m' ∧ K (.tuple #[]) m'
def clrmP (m : Mem) (K : Value → Mem → Prop) : Option Nat → Prop
  | none => K (.tuple #[]) m
  | some r => ∃ es clock, m r = some (.map es clock) ∧ K (.tuple #[]) (m.set r (.map #[] clock))
/-- what does something to memory; what it makes is new: any block that was not there -/
def xs (P : Program) (ro : RO) (args : List Value) (m : Mem) (K : Value → Mem → Prop) : Prop :=
  match ro, args with
  | .st n, [x, v] => pP (fun a => v.cells.size = n ∧ ∃ m', stCells m a 0 v.cells.toList = some m' ∧ K undef m') x
  | .alc zero t, [] => ∀ b, m b = none → K (.pointer (some ⟨b, 0, none⟩)) (m.set b (.cells zero.toArray t))
  | .box t, [v] => ∀ b, m b = none → K (.pointer (some ⟨b, 0, none⟩)) (m.set b (.cells v.cells t))
  | .bsl t len zero places, vs => ∃ l, lay zero places vs = some l ∧ ∀ b, m b = none → K (.slice (some ⟨b, 0, none⟩) len len) (m.set b (.cells l.toArray t))
  | .mks t bytes zero, [x, y] => iP (fun n => iP (fun c => 0 ≤ n ∧ n ≤ c ∧ c ≤ 9223372036854775807 ∧ bytes * c ≤ 281474976710656 ∧
      ∀ b, m b = none → K (.slice (some ⟨b, 0, none⟩) n.toNat c.toNat) (m.set b (.cells (List.replicate c.toNat zero).flatten.toArray t))) y) x
  | .app t size bytes zero, [x, y] => sP (fun base n cap => sP (fun b k _ => ∃ news, ldS m b (k * size) = some news ∧ appP size bytes zero t m K base n cap news k) y) x
  | .apps t, [x, y] => sP (fun base n cap => zP (fun s => appP 1 1 [.int .u8 0] t m K base n cap (s.data.toList.map fun c => .int .u8 c.toNat) s.size) y) x
  | .cpy size, [x, y] => sP (fun base n _ => sP (fun b k _ => ∃ cells, ldS m b (min k n * size) = some cells ∧
      match base with | some a => ∃ m', stCells m a 0 cells = some m' ∧ K (.int .i64 (min k n : Nat)) m' | none => K (.int .i64 (min k n : Nat)) m) y) x
  | .call f, vs => MC P f vs m K
  | .callv, x :: vs => fP (fun f first captured => callable P f = true ∧ MC P f (first ++ vs ++ captured) m K) x
  | .mkm, [] => ∀ b, m b = none → K (.map (some b)) (m.set b (.map #[] 0))
  | .mup ag ks, [x, k, v] => mP (fun r => ∃ b, r = some b ∧ mupP ag ks m K b k v) x
  | .dlt ag ks, [x, k] => mP (dltP ag ks m K k) x
  | .clr zero, [x] => sP (clrP zero m K) x
  | .clrm, [x] => mP (clrmP m K) x
  | .rng, [x] => mP (rngP m K) x
  | .nxt, [x] => pP (nxtP m K) x
  | .s2b t, [x] => zP (fun s => ∀ c b, s.size ≤ c → m b = none → K (.slice (some ⟨b, 0, none⟩) s.size c) (m.set b (.cells ((s.data.toList.map fun (x : UInt8) => Value.int .u8 x.toNat) ++ List.replicate (c - s.size) (Value.int .u8 0)).toArray t (c, c + 1)))) x
  | _, _ => False

end Go.Fw
