import Derived.Test.YtadkdbnikmkgfaaFvX
/-! Regions: what the operations of a statement come to, in whatever order. -/
namespace Go.Fw

inductive X where
  | slot (t : Nat) | res (i : Nat) | const (v : Value) | glob (g : Nat) | fn (f : Nat)
  deriving Inhabited

abbrev Env := List (Nat × Value)
def Env.get : Env → Nat → Value
  | [], _ => undef
  | (j, v) :: r, i => if i = j then v else Env.get r i
def Env.has : Env → Nat → Bool
  | [], _ => false
  | (j, _) :: r, i => i == j || Env.has r i

def X.ev (L : Nat → Value) (σ : Env) : X → Value
  | .slot t => L t
  | .res i => σ.get i
  | .const v => v
  | .glob g => .pointer (some ⟨g, 0, none⟩)
  | .fn f => .func (.func f) #[] #[]

def asB : Value → Option Bool
  | .bool b => some b
  | _ => none

abbrev Gd := Option (X × Bool)

inductive ET where
  | out (outs : List (Nat × X))
  | fail
  | tt
  | q (i : Nat) (ro : RO) (args : List X) (g : Gd) (k : ET)
  | x (i : Nat) (ro : RO) (args : List X) (g : Gd) (rc : List (Nat × RO × List X × Gd)) (k : ET)
  | both (a b : ET)
  deriving Inhabited

def bindO (o : Option Value) (K : Value → Prop) : Prop := ∃ v, o = some v ∧ K v
def gP (L : Nat → Value) (σ : Env) (g : Gd) (yes no : Prop) : Prop :=
  match g with
  | none => yes
  | some (x, want) => (asB (x.ev L σ) = some want → yes) ∧ (asB (x.ev L σ) ≠ some want → no)
def rcP (L : Nat → Value) (σ : Env) (m : Mem) : List (Nat × RO × List X × Gd) → Prop
  | [] => True
  | (i, ro, args, g) :: r => gP L σ g (rd ro (args.map (X.ev L σ)) m = some (σ.get i)) True ∧ rcP L σ m r

def etP (P : Program) (L : Nat → Value) : ET → Env → Mem → (Env → Mem → Prop) → Prop
  | .out outs, σ, m, K => K (outs.map fun p => (p.1, p.2.ev L σ)) m
  | .fail, _, _, _ => False
  | .tt, _, _, _ => True
  | .q i ro args g k, σ, m, K => gP L σ g (bindO (rd ro (args.map (X.ev L σ)) m) fun v => etP P L k ((i, v) :: σ) m K) (etP P L k ((i, undef) :: σ) m K)
  | .x i ro args g rc k, σ, m, K =>
    gP L σ g (xs P ro (args.map (X.ev L σ)) m fun v m' => rcP L ((i, v) :: σ) m' rc ∧ etP P L k ((i, v) :: σ) m' K) (etP P L k ((i, undef) :: σ) m K)
  | .both a b, σ, m, K => etP P L a σ m K ∧ etP P L b σ m K

/-! ### from operations to trees -/
def dstAt (ops : Array Oper) (k : Nat) : Option Nat := (ops[k]?).bind (·.dst)
def lastW (ops : Array Oper) (t : Nat) : Nat → Option Nat
  | 0 => none
  | k + 1 => if dstAt ops k = some t then some k else lastW ops t k
/-- an unguarded move's operand -/
def mvOf (ops : Array Oper) (j : Nat) : Option Operand :=
  match ops[j]? with
  | some o => if o.guard.isNone then (match o.op with | .move x | .assign x => some x | _ => none) else none
  | none => none
def nx (ops : Array Oper) : Nat → Nat → X
  | 0, j => .res j
  | f + 1, j =>
    match mvOf ops j with
    | some (.tmp t) => (match lastW ops t j with | none => .slot t | some k => nx ops f k)
    | some (.const v) => .const v
    | some (.global g) => .glob g
    | some (.func g) => .fn g
    | none => .res j
def src (ops : Array Oper) (i : Nat) : Operand → X
  | .tmp t => (match lastW ops t i with | none => .slot t | some k => nx ops ops.size k)
  | .const v => .const v
  | .global g => .glob g
  | .func g => .fn g

structure Nd where
  ro : RO
  args : List X
  g : Gd
  mv : Bool
  deriving Inhabited

def gdOf (ops : Array Oper) (i : Nat) (o : Oper) : Option Gd :=
  match o.guard with
  | none => some none
  | some (j, want) => (dstAt ops j).map fun d => some (src ops i (.tmp d), want)
def okX (l : List Nat) : Operand → Bool
  | .tmp t => l.contains t
  | _ => true
def ndOf (P : Program) (ops : Array Oper) (i : Nat) : Option Nd :=
  (ops[i]?).bind fun o => (res P o).bind fun r => if r.2.all (okX (o.looksAt ops)) then (gdOf ops i o).map fun g => ⟨r.1, r.2.map (src ops i), g, (mvOf ops i).isSome⟩ else none

/-- every operation's transitive predecessors, as bits -/
def tpStep (acc : List Nat) (o : Oper) : Nat := o.after.toList.foldl (fun s e => if Region.binds .any e then s ||| 2 ^ e.on ||| acc.getD e.on 0 else s) 0
def tps : List Oper → List Nat → List Nat
  | [], acc => acc
  | o :: r, acc => tps r (acc ++ [tpStep acc o])

def firstQ (ns tp : List Nat) (qt : List Bool) (D : Nat) : Option Nat := ns.find? fun i => !D.testBit i && qt.getD i false && ((tp.getD i 0) &&& D == tp.getD i 0)
def readyX (ns tp : List Nat) (qt : List Bool) (D : Nat) : List Nat := ns.filter fun i => !D.testBit i && !qt.getD i true && ((tp.getD i 0) &&& D == tp.getD i 0)

def allOf : List ET → ET
  | [] => .tt
  | [a] => a
  | a :: r => .both a (allOf r)

def rcOf (ns : List Nat) (nd : List Nd) (tp : List Nat) (D i : Nat) : List (Nat × RO × List X × Gd) :=
  ns.filterMap fun j => (nd[j]?).bind fun d => if D.testBit j && d.ro.quiet && d.ro.reads && !(tp.getD i 0).testBit j then some (j, d.ro, d.args, d.g) else none

def mkT (ns : List Nat) (nd : List Nd) (tp : List Nat) (qt : List Bool) (outs : List (Nat × X)) : Nat → Nat → ET
  | 0, _ => .fail
  | f + 1, D =>
    match firstQ ns tp qt D with
    | some i =>
      match nd[i]? with
      | some d => if d.mv then mkT ns nd tp qt outs f (D ||| 2 ^ i) else .q i d.ro d.args d.g (mkT ns nd tp qt outs f (D ||| 2 ^ i))
      | none => .fail
    | none =>
      match readyX ns tp qt D with
      | [] => if ns.all (fun i => D.testBit i) then .out outs else .fail
      | r => allOf (r.map fun i => match nd[i]? with | some d => .x i d.ro d.args d.g (rcOf ns nd tp D i) (mkT ns nd tp qt outs f (D ||| 2 ^ i)) | none => .fail)

/-- the order of the text alone -/
def mkS (outs : List (Nat × X)) : List Nd → Nat → ET
  | [], _ => .out outs
  | d :: r, i => if d.mv then mkS outs r (i + 1) else if d.ro.quiet then .q i d.ro d.args d.g (mkS outs r (i + 1)) else .x i d.ro d.args d.g [] (mkS outs r (i + 1))

end Go.Fw
