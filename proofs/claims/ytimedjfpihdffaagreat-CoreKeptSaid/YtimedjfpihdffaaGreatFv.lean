import Derived.Orders
import Derived.Tactics
import Derived.Laws.Sem
import Derived.Laws.World
import Derived.Laws.Entries
import GoSem.Dispatch
import GoSem.Op.String
import Derived.Laws.Externs
import Derived.ChangeKeysEq
import Derived.Laws.StructEq
import Derived.LaidEql
import GoSem.Extern.SlicesOverlaps
import Derived.Laws.Append
import Derived.Deep.LoopGhost
set_option linter.unusedVariables false
set_option linter.unusedSimpArgs false
set_option maxHeartbeats 16000000
namespace Go.Fw
abbrev Mem:=Nat→Option Obj
def qO (w:World):Mem:=fun b=>w.heap[b]?
def Mem.set (m:Mem) (b:Nat) (o:Obj):Mem:=fun x=>if x=b then some o else m x
structure jn (w w':World):Prop where
 os:w'.os=w.os
 out:w'.output=w.output
 size:w.heap.size≤w'.heap.size
 tape:w'.tape=w.tape
 drawn:w.drawn≤w'.drawn
theorem jn.oU (w:World):jn w w:=⟨rfl,rfl,Nat.le_refl _,rfl,Nat.le_refl _⟩
theorem jn.trans {a b c:World} (h:jn a b) (g:jn b c):jn a c:=⟨g.os.trans h.os,g.out.trans h.out,Nat.le_trans h.size g.size,g.tape.trans h.tape,Nat.le_trans h.drawn g.drawn⟩
def MC (P:Program) (f:Nat) (args:List Value) (m:Mem) (R:Value→Mem→Prop):Prop :=
 ∀ w,qO w=m→Calls P f args.toArray w fun e w'=>∃ v,e=.returned v∧jn w w'∧R v (qO w')
def Ks (P:Program) (g:Nat):Bool:=match P.funcs[g]? with | some fn=>fn.body.isSome && fn.name != "runtime.NumGoroutine" | none=>false
theorem MC.mono {P:Program} {f:Nat} {args:List Value} {m:Mem} {R R':Value→Mem→Prop} (h:MC P f args m R) (hr:∀ v m',R v m'→R' v m'):MC P f args m R' :=
 fun w hw=>(h w hw).mono fun _ _ ⟨v,he,hs,hR⟩=>⟨v,he,hs,hr _ _ hR⟩
def cell (m:Mem) (a:Addr):Option Value :=
 match m a.block with
 | some (.cells c _ _)=>if a.spot.isSome then none else c[a.off]?
 | _=>none
theorem Tk (w:World) (a:Addr):cell (qO w) a=w.cell? a:=rfl
def qjL (m:Mem) (a:Addr) (v:Value):Option Mem :=
 match m a.block with
 | some (.cells c t fr)=>if a.spot.isSome || !(a.off < c.size) || (fr.1≤a.off && a.off < fr.2) then none else some (m.set a.block (.cells (c.setIfInBounds a.off v) t fr))
 | _=>none
def jN (m:Mem) (a:Addr):Nat→Nat→Option (List Value)
 | _,0=>some []
 | i,n+1=>(cell m (a.add i)).bind fun v=>(jN m a (i+1) n).map (v::·)
def zT (m:Mem) (a:Addr):Nat→List Value→Option Mem
 | _,[]=>some m
 | i,v::r=>if v.oneCell' then (qjL m (a.add i) v).bind fun m'=>zT m' a (i+1) r else none
inductive LK where
 | b | i (k:IntKind) | s
 deriving Inhabited,DecidableEq
def le1:LK→Value→Value→Option Bool
 | .b,.bool a,.bool b=>some (a == b)
 | .i k,.int k1 a,.int k2 b=>if k1=k∧k2=k then some (a == b) else none
 | .s,.string a,.string b=>some (a.data.toList == b.data.toList)
 | _,_,_=>none
def qi:List LK→List Value→List Value→Option Bool
 | [],[],[]=>some true
 | k::ks,x::xs,y::ys=>(le1 k x y).bind fun b=>(qi ks xs ys).map (b && ·)
 | _,_,_=>none
inductive RO where
 | bad | zid
 | mv | pick | nilck
 | fld (off:Nat)
 | ixs (size:Nat) | ixa (len size:Nat)
 | ld | lda (n:Nat)
 | prt (off:Nat) | prta (off n:Nat)
 | idx (len size:Nat) | idxa (len size:Nat) | idxs
 | bld (zero:List Value) (places:List (Nat×Nat))
 | ext (i:Nat)
 | iar (op:BinOp) | idv (op:BinOp) | ibt (op:BinOp) | ish (op:BinOp) | icm (op:BinOp)
 | beq (ng:Bool) | str (op:BinOp) | eqp (ng:Bool) | eqs (ng:Bool) | eqm (ng:Bool) | eqc (ng:Bool) (ks:List LK)
 | not | neg | cpl
 | conv (k:IntKind)
 | slc (size:Nat) (lo hi:Bool) | slc3 (size:Nat) (lo:Bool) | slcs (lo hi:Bool) | sla (len size:Nat) (lo hi:Bool)
 | len | lenz | lenk (n:Nat) | lenm | cap
 | mn | mx
 | mkf (fn:Fn) (nfirst:Nat) | mki (t:TypeId)
 | lkp (ag:Bool) (ks:List LK) (zero:Value) (ok:Bool)
 | b2s
 | st (n:Nat)
 | alc (zero:List Value) (t:TypeId) | box (t:TypeId)
 | bsl (t:TypeId) (len:Nat) (zero:List Value) (places:List (Nat×Nat))
 | mks (t:TypeId) (bytes:Nat) (zero:List Value)
 | app (t:TypeId) (size bytes:Nat) (zero:List Value)
 | apps (t:TypeId)
 | cpy (size:Nat)
 | mkm
 | mup (ag:Bool) (ks:List LK)
 | dlt (ag:Bool) (ks:List LK)
 | clr (zero:List Value) | clrm
 | rng | nxt | ent
 | s2b (t:TypeId)
 | eqi (ng:Bool) | ixb | eqq (ng:Bool) | ovl (size:Nat)
 | appn (t:TypeId) (size bytes:Nat) (zero:List Value)
 | mrk
 | call (f:Nat)
 | callv
 deriving Inhabited
def RO.quiet:RO→Bool
 | .bad | .st _ | .alc .. | .box _ | .bsl .. | .mks .. | .app .. | .apps _ | .cpy _ | .mkm | .mup .. | .dlt .. | .clr .. | .clrm | .rng | .nxt | .s2b _ | .appn .. | .mrk | .call _ | .callv=>false
 | _=>true
def RO.reads:RO→Bool
 | .ld | .lda _ | .lenm | .lkp .. | .b2s | .ent | .eqi _ | .ixb | .eqq _ | .ovl _=>true
 | _=>false
def cutB (s:ByteArray) (lo hi:Int):Option ByteArray:=if 0≤lo∧lo≤hi∧hi≤s.size then some (s.extract lo.toNat hi.toNat) else none
def xy (size:Nat) (a:Option Addr) (cap:Nat) (lo hi:Int):Option Value :=
 if 0≤lo∧lo≤hi∧hi≤cap then some (.slice (if cap=lo.toNat then a else a.map (·.add (lo.toNat*size))) (hi.toNat - lo.toNat) (cap - lo.toNat)) else none
def vcl:Value→List Value
 | .agg cs=>cs.toList
 | v=>[v]
theorem qkJ (v:Value):vcl v=v.cells.toList:=by cases v<;>rfl
def spl:Nat→List Value→List Value→Option (List Value)
 | 0,[],cs=>some cs
 | 0,v::vs,_::cs=>(spl 0 vs cs).map (v::·)
 | n+1,vs,c::cs=>(spl n vs cs).map (c::·)
 | _,_,_=>none
def lay (cells:List Value):List (Nat×Nat)→List Value→Option (List Value)
 | [],[]=>some cells
 | (off,size)::ps,v::vs=>if (vcl v).length=size then (spl off (vcl v) cells).bind fun cs=>lay cs ps vs else none
 | _,_=>none
def ldS (m:Mem) (a:Option Addr) (n:Nat):Option (List Value):=match a with | some a=>jN m a 0 n | none=>some []
def i2 (f:IntKind→Int→Int→Option Value):Value→Value→Option Value
 | .int k a,.int k' b=>if k=k' then f k a b else none
 | _,_=>none
def j2 (f:IntKind→Int→Int→Option Value):Value→Value→Option Value
 | .int k a,.int _ b=>f k a b
 | _,_=>none
def i1 (f:IntKind→Int→Option Value):Value→Option Value
 | .int k a=>f k a
 | _=>none
def b2 (f:Bool→Bool→Option Value):Value→Value→Option Value
 | .bool a,.bool b=>f a b
 | _,_=>none
def b1 (f:Bool→Option Value):Value→Option Value
 | .bool a=>f a
 | _=>none
def p1 (f:Addr→Option Value):Value→Option Value
 | .pointer (some a)=>f a
 | _=>none
def g1 (f:Array Value→Option Value):Value→Option Value
 | .agg cs=>f cs
 | _=>none
def t1 (f:Array Value→Option Value):Value→Option Value
 | .tuple cs=>f cs
 | _=>none
def s1 (f:Option Addr→Nat→Nat→Option Value):Value→Option Value
 | .slice a n c=>f a n c
 | _=>none
def z1 (f:ByteArray→Option Value):Value→Option Value
 | .string s=>f s
 | _=>none
def z2 (f:ByteArray→ByteArray→Option Value):Value→Value→Option Value
 | .string s,.string u=>f s u
 | _,_=>none
def eqp (ng:Bool):Value→Value→Option Value
 | .pointer a,.pointer none=>some (.bool (if ng then a.isSome else a.isNone))
 | _,_=>none
def cz (m:Mem) (b:Nat):Bool:=match m b with
 | some (.cells _ _ (0,0))=>true
 | _=>false
def eqQ (m:Mem) (ng:Bool):Value→Value→Option Value
 | .pointer a,.pointer none=>some (.bool (if ng then a.isSome else a.isNone))
 | .pointer none,.pointer (some _)=>some (.bool ng)
 | .pointer (some a),.pointer (some b)=>if a.block=b.block then some (.bool (if ng then !(a == b) else a == b)) else if cz m a.block && cz m b.block then some (.bool ng) else none
 | _,_=>none
def ovQ (m:Mem) (size:Nat):Value→Value→Option Value
 | .slice (some a) la _,.slice (some b) lb _=>if la=0∨lb=0∨size=0 then some (.bool false)
  else if a.block=b.block then some (.bool (a.off < b.off+lb*size && b.off < a.off+la*size))
  else if cz m a.block && cz m b.block then some (.bool false) else none
 | .slice none _ _,.slice _ _ _=>some (.bool false)
 | .slice (some _) _ _,.slice none _ _=>some (.bool false)
 | _,_=>none
def eqs (ng:Bool):Value→Value→Option Value
 | .slice a _ _,.slice none _ _=>some (.bool (if ng then a.isSome else a.isNone))
 | _,_=>none
def eqm (ng:Bool):Value→Value→Option Value
 | .map a,.map none=>some (.bool (if ng then a.isSome else a.isNone))
 | _,_=>none
def mn2:Value→Value→Option Value
 | .int k a,.int k' b=>if k=k' then some (.int k (if b < a then b else a)) else none
 | .string a,.string b=>some (.string (if Op.bytesLess a.data.toList b.data.toList || a.data.toList == b.data.toList then a else b))
 | _,_=>none
def mx2:Value→Value→Option Value
 | .int k a,.int k' b=>if k=k' then some (.int k (if a < b then b else a)) else none
 | _,_=>none
def aR (f:Value→Value→Option Value):Value→List Value→Option Value
 | v,[]=>some v
 | v,x::r=>(f v x).bind fun u=>aR f u r
def qxt (size:Nat) (a:Addr) (cap:Nat) (lo hi:Int):Option Value :=
 if 0≤lo∧lo≤hi∧hi≤cap then some (.slice (some (if cap=lo.toNat then a else a.add (lo.toNat*size))) (hi.toNat - lo.toNat) (cap - lo.toNat)) else none
def qZe (size:Nat) (a:Option Addr) (cap:Nat) (lo hi mx:Int):Option Value :=
 if 0≤lo∧lo≤hi∧hi≤mx∧mx≤cap then some (.slice (if mx.toNat=lo.toNat then a else a.map (·.add (lo.toNat*size))) (hi.toNat - lo.toNat) (mx.toNat - lo.toNat)) else none
def qxs (s:ByteArray) (lo hi:Int):Option Value:=(cutB s lo hi).map .string
def ixB (x y:Value):Option Value:=match x,y with | .string s,.int .u8 c=>some (.int .i64 (firstIdx s c.toNat.toUInt8)) | _,_=>none
theorem qQo {x y v:Value} (h:ixB x y=some v):∃ s c,x=.string s∧y=.int .u8 c∧v=.int .i64 (firstIdx s c.toNat.toUInt8):=by
 unfold ixB at h
 split at h
 ·exact ⟨_,_,rfl,rfl,by simpa using h.symm⟩
 ·cases h
def eqI (ng:Bool) (x y:Value):Option Value:=match x,y with | .nilIface,.nilIface=>some (.bool (!ng)) | .iface _ _,.nilIface=>some (.bool ng) | _,_=>none
theorem qzS {ng:Bool} {x y v:Value} (h:eqI ng x y=some v):y=.nilIface∧((x=.nilIface∧v=.bool (!ng))∨((∃ t u,x=.iface t u)∧v=.bool ng)):=by
 unfold eqI at h
 split at h
 ·exact ⟨rfl,.inl ⟨rfl,by simpa using h.symm⟩⟩
 ·exact ⟨rfl,.inr ⟨⟨_,_,rfl⟩,by simpa using h.symm⟩⟩
 ·cases h
def rdp (ro:RO) (args:List Value):Option Value :=
 match ro,args with
 | .mv,[v]=>some v
 | .pick,[c,a,b]=>b1 (fun c=>some (if c then a else b)) c
 | .nilck,[x]=>p1 (fun a=>some (.pointer (some a))) x
 | .fld off,[x]=>p1 (fun a=>some (.pointer (some (a.add off)))) x
 | .ixs size,[x,i]=>s1 (fun a len _=>i1 (fun _ i=>if 0≤i∧i < len then a.map fun a=>.pointer (some (a.add (i.toNat*size))) else none) i) x
 | .ixa len size,[x,i]=>p1 (fun a=>i1 (fun _ i=>if 0≤i∧i < len then some (.pointer (some (a.add (i.toNat*size)))) else none) i) x
 | .prt off,[x]=>g1 (fun cs=>cs[off]?) x
 | .prta off n,[x]=>g1 (fun cs=>some (.agg (cs.extract off (off+n)))) x
 | .idx len size,[x,i]=>g1 (fun cs=>i1 (fun _ i=>if 0≤i∧i < len then cs[i.toNat*size]? else none) i) x
 | .idxa len size,[x,i]=>g1 (fun cs=>i1 (fun _ i=>if 0≤i∧i < len then some (.agg (cs.extract (i.toNat*size) (i.toNat*size+size))) else none) i) x
 | .idxs,[x,i]=>z1 (fun s=>i1 (fun _ i=>if 0≤i then (s[i.toNat]?).map fun b=>.int .u8 b.toNat else none) i) x
 | .bld zero places,vs=>(lay zero places vs).map fun l=>.agg l.toArray
 | .ext i,[x]=>t1 (fun vs=>vs[i]?) x
 | .iar .add,[x,y]=>i2 (fun k a b=>some (.int k (k.wrap (a+b)))) x y
 | .iar .sub,[x,y]=>i2 (fun k a b=>some (.int k (k.wrap (a - b)))) x y
 | .iar .mul,[x,y]=>i2 (fun k a b=>some (.int k (k.wrap (a*b)))) x y
 | .idv .quo,[x,y]=>i2 (fun k a b=>if b=0 then none else some (.int k (k.wrap (a.tdiv b)))) x y
 | .idv .rem,[x,y]=>i2 (fun k a b=>if b=0 then none else some (.int k (a.tmod b))) x y
 | .ibt .and,[x,y]=>i2 (fun k a b=>some (.int k (k.wrap (BitVec.ofInt k.bits a &&& BitVec.ofInt k.bits b).toNat))) x y
 | .ibt .or,[x,y]=>i2 (fun k a b=>some (.int k (k.wrap (BitVec.ofInt k.bits a ||| BitVec.ofInt k.bits b).toNat))) x y
 | .ibt .xor,[x,y]=>i2 (fun k a b=>some (.int k (k.wrap (BitVec.ofInt k.bits a ^^^ BitVec.ofInt k.bits b).toNat))) x y
 | .ish .shl,[x,y]=>j2 (fun k a b=>if b < 0 then none else some (.int k (k.wrap (a*2 ^ min b.toNat k.bits)))) x y
 | .ish .shr,[x,y]=>j2 (fun k a b=>if b < 0 then none else some (.int k (a.fdiv (2 ^ min b.toNat k.bits)))) x y
 | .icm .eql,[x,y]=>i2 (fun _ a b=>some (.bool (a == b))) x y
 | .icm .neq,[x,y]=>i2 (fun _ a b=>some (.bool (a != b))) x y
 | .icm .lss,[x,y]=>i2 (fun _ a b=>some (.bool (a < b))) x y
 | .icm .leq,[x,y]=>i2 (fun _ a b=>some (.bool (a≤b))) x y
 | .icm .gtr,[x,y]=>i2 (fun _ a b=>some (.bool (b < a))) x y
 | .icm .geq,[x,y]=>i2 (fun _ a b=>some (.bool (b≤a))) x y
 | .beq ng,[x,y]=>b2 (fun a b=>some (.bool (if ng then a != b else a == b))) x y
 | .str .add,[x,y]=>z2 (fun a b=>if a.size+b.size≤9223372036854775807 then some (.string (a++b)) else none) x y
 | .str .eql,[x,y]=>z2 (fun a b=>some (.bool (a.data.toList == b.data.toList))) x y
 | .str .neq,[x,y]=>z2 (fun a b=>some (.bool !(a.data.toList == b.data.toList))) x y
 | .str .lss,[x,y]=>z2 (fun a b=>some (.bool (Op.bytesLess a.data.toList b.data.toList))) x y
 | .str .leq,[x,y]=>z2 (fun a b=>some (.bool (Op.bytesLess a.data.toList b.data.toList || a.data.toList == b.data.toList))) x y
 | .str .gtr,[x,y]=>z2 (fun a b=>some (.bool !(Op.bytesLess a.data.toList b.data.toList || a.data.toList == b.data.toList))) x y
 | .str .geq,[x,y]=>z2 (fun a b=>some (.bool !(Op.bytesLess a.data.toList b.data.toList))) x y
 | .eqc ng ks,[x,y]=>g1 (fun xs=>g1 (fun ys=>(qi ks xs.toList ys.toList).map fun b=>.bool (if ng then !b else b)) y) x
 | .eqm ng,[x,y]=>eqm ng x y
 | .zid,[x]=>z1 (fun s=>some (.string s)) x
 | .cpl,[x]=>i1 (fun k n=>some (.int k (k.wrap (BitVec.ofInt k.bits (if k.signed then -1 else k.max) ^^^ BitVec.ofInt k.bits n).toNat))) x
 | .eqp ng,[x,y]=>eqp ng x y
 | .eqs ng,[x,y]=>eqs ng x y
 | .not,[x]=>b1 (fun b=>some (.bool !b)) x
 | .neg,[x]=>i1 (fun k n=>some (.int k (k.wrap (0 - n)))) x
 | .conv k,[x]=>i1 (fun _ n=>some (.int k (k.wrap n))) x
 | .slc size false false,[x]=>s1 (fun a n cap=>xy size a cap 0 n) x
 | .slc size true false,[x,lo]=>s1 (fun a n cap=>i1 (fun _ lo=>xy size a cap lo n) lo) x
 | .slc size false true,[x,hi]=>s1 (fun a _ cap=>i1 (fun _ hi=>xy size a cap 0 hi) hi) x
 | .slc size true true,[x,lo,hi]=>s1 (fun a _ cap=>j2 (fun _ lo hi=>xy size a cap lo hi) lo hi) x
 | .len,[x]=>s1 (fun _ n _=>some (.int .i64 n)) x
 | .lenz,[x]=>z1 (fun s=>some (.int .i64 s.size)) x
 | .lenk n,[_]=>some (.int .i64 n)
 | .cap,[x]=>s1 (fun _ _ c=>some (.int .i64 c)) x
 | .slc3 size false,[x,hi,mx]=>s1 (fun a _ cap=>j2 (fun _ hi mx=>qZe size a cap 0 hi mx) hi mx) x
 | .slc3 size true,[x,lo,hi,mx]=>s1 (fun a _ cap=>i1 (fun _ lo=>j2 (fun _ hi mx=>qZe size a cap lo hi mx) hi mx) lo) x
 | .slcs false false,[x]=>z1 (fun s=>qxs s 0 s.size) x
 | .slcs true false,[x,lo]=>z1 (fun s=>i1 (fun _ lo=>qxs s lo s.size) lo) x
 | .slcs false true,[x,hi]=>z1 (fun s=>i1 (fun _ hi=>qxs s 0 hi) hi) x
 | .slcs true true,[x,lo,hi]=>z1 (fun s=>j2 (fun _ lo hi=>qxs s lo hi) lo hi) x
 | .sla n size false false,[x]=>p1 (fun a=>qxt size a n 0 n) x
 | .sla n size true false,[x,lo]=>p1 (fun a=>i1 (fun _ lo=>qxt size a n lo n) lo) x
 | .sla n size false true,[x,hi]=>p1 (fun a=>i1 (fun _ hi=>qxt size a n 0 hi) hi) x
 | .sla n size true true,[x,lo,hi]=>p1 (fun a=>j2 (fun _ lo hi=>qxt size a n lo hi) lo hi) x
 | .mn,x::r=>aR mn2 x r
 | .mx,x::r=>aR mx2 x r
 | .mkf fn n,vs=>some (.func fn (vs.take n).toArray (vs.drop n).toArray)
 | .mki t,[v]=>some (.iface t v)
 | _,_=>none
def xB (ag:Bool):Value→Bool
 | .agg _=>ag
 | .tuple _=>false
 | _=>!ag
def cL (ag:Bool) (ks:List LK) (k:Value):Bool:=xB ag k && (qi ks (vcl k) (vcl k)).isSome
def Vj (ag:Bool) (ks:List LK) (k:Value):List MapEntry→Nat→Option (Option (Nat×Value))
 | [],_=>some none
 | e::es,i=>if xB ag e.key then (qi ks (vcl k) (vcl e.key)).bind fun b=>if b then some (some (i,e.val)) else Vj ag ks k es (i+1) else none
def entriesOf (m:Mem):Value→Option (Array MapEntry)
 | .map none=>some #[]
 | .map (some r)=>match m r with | some (.map es _)=>some es | _=>none
 | _=>none
def CD (m:Mem) (a:Addr):Option Value :=
 if a.off=0 then
  match m a.block with
  | some (.mapIter (some b) _ seen last) =>
   match seen.back? with
   | some stamp =>
    match m b with
    | some (.map es clock)=>if clock=last then (es.find? (·.born == stamp)).map fun e=>.tuple #[e.key,e.val] else none
    | _=>none
   | none=>none
  | _=>none
 else none
def Vf:List Value→Option (List UInt8)
 | []=>some []
 | .int .u8 n::r=>(Vf r).map (UInt8.ofNat n.toNat::·)
 | _=>none
def rdm (ro:RO) (args:List Value) (m:Mem):Option Value :=
 match ro,args with
 | .eqi ng,[x,y]=>eqI ng x y
 | .eqq ng,[x,y]=>eqQ m ng x y
 | .ixb,[x,y]=>ixB x y
 | .ovl s,[x,y]=>ovQ m s x y
 | .lenm,[x]=>(entriesOf m x).map fun es=>.int .i64 es.size
 | .lkp ag ks zero ok,[x,k]=>if cL ag ks k then (entriesOf m x).bind fun es=>(Vj ag ks k es.toList 0).map fun r =>
   match r with
   | some (_,v)=>if ok then .tuple #[v,.bool true] else v
   | none=>if ok then .tuple #[zero,.bool false] else zero
  else none
 | .b2s,[x]=>s1 (fun a n _=>(ldS m a n).bind fun l=>(Vf l).map fun bs=>.string ⟨bs.toArray⟩) x
 | .ent,[x]=>p1 (CD m) x
 | .ld,[x]=>p1 (fun a=>cell m a) x
 | .lda n,[x]=>p1 (fun a=>(jN m a 0 n).map fun l=>.agg l.toArray) x
 | _,_=>none
def rd (ro:RO) (args:List Value) (m:Mem):Option Value:=match ro.reads with | true=>rdm ro args m | false=>rdp ro args
def pP (f:Addr→Prop):Value→Prop
 | .pointer (some a)=>f a
 | _=>False
def iP (f:Int→Prop):Value→Prop
 | .int .i64 n=>f n
 | _=>False
def sP (f:Option Addr→Nat→Nat→Prop):Value→Prop
 | .slice a n c=>f a n c
 | _=>False
def zP (f:ByteArray→Prop):Value→Prop
 | .string s=>f s
 | _=>False
theorem bU {f:Option Addr→Nat→Nat→Prop} {v:Value} (h:sP f v):∃ a n c,v=.slice a n c∧f a n c:=by
 unfold sP at h
 split at h
 ·exact ⟨_,_,_,rfl,h⟩
 ·exact h.elim
theorem Td {f:ByteArray→Prop} {v:Value} (h:zP f v):∃ a,v=.string a∧f a:=by
 unfold zP at h
 split at h
 ·exact ⟨_,rfl,h⟩
 ·exact h.elim
theorem Yv {f g:Option Addr→Nat→Nat→Prop} {v:Value} (h:∀ a b c,f a b c→g a b c) (hh:sP f v):sP g v:=by obtain ⟨a,b,c,rfl,h'⟩:=bU hh;exact h _ _ _ h'
theorem qzq {f g:ByteArray→Prop} {v:Value} (h:∀ a,f a→g a) (hh:zP f v):zP g v:=by obtain ⟨a,rfl,h'⟩:=Td hh;exact h _ h'
def Oe (size bytes:Nat) (zero:List Value) (t:TypeId) (m:Mem) (K:Value→Mem→Prop) (base:Option Addr) (n cap:Nat) (news:List Value) (k:Nat):Prop :=
 (n+k)*bytes≤140737488355328∧n+k≤4611686018427387904 ∧
 (n+k≤cap→match base with
  | some a=>∃ m',zT m a (n*size) news=some m'∧K (.slice (some a) (n+k) cap) m'
  | none=>K (.slice none (n+k) cap) m) ∧
 (cap < n+k→∃ old,ldS m base (n*size)=some old ∧
  ∀ c b,n+k≤c→m b=none→K (.slice (some ⟨b,0,none⟩) (n+k) c) (m.set b (.cells (old++news++(List.replicate (c - (n+k)) zero).flatten).toArray t)))
theorem Ay {size bytes:Nat} {zero:List Value} {t:TypeId} {m:Mem} {K K':Value→Mem→Prop} {base:Option Addr} {n cap:Nat} {news:List Value} {k:Nat} (h:∀ v m,K v m→K' v m)
  (hh:Oe size bytes zero t m K base n cap news k):Oe size bytes zero t m K' base n cap news k:=by
 obtain ⟨h1,h2,h3,h4⟩:=hh
 refine ⟨h1,h2,fun hc=>?_,fun hc=>?_⟩
 ·have:=h3 hc
  cases base with
  | none=>exact h _ _ this
  | some a=>obtain ⟨m',e,hk⟩:=this;exact ⟨m',e,h _ _ hk⟩
 ·obtain ⟨old,e,hk⟩:=h4 hc
  exact ⟨old,e,fun c b hb hn=>h _ _ (hk c b hb hn)⟩
def fP (f:Nat→List Value→List Value→Prop):Value→Prop
 | .func (.func g) first captured=>f g first.toList captured.toList
 | _=>False
theorem UZ {f:Addr→Prop} {v:Value} (h:pP f v):∃ a,v=.pointer (some a)∧f a:=by
 unfold pP at h
 split at h
 ·exact ⟨_,rfl,h⟩
 ·exact h.elim
theorem NW {f:Int→Prop} {v:Value} (h:iP f v):∃ a,v=.int .i64 a∧f a:=by
 unfold iP at h
 split at h
 ·exact ⟨_,rfl,h⟩
 ·exact h.elim
theorem qwx {f:Nat→List Value→List Value→Prop} {v:Value} (h:fP f v):∃ g a c,v=.func (.func g) a c∧f g a.toList c.toList:=by
 unfold fP at h
 split at h
 ·exact ⟨_,_,_,rfl,h⟩
 ·exact h.elim
theorem qzt {f g:Addr→Prop} {v:Value} (h:∀ a,f a→g a) (hh:pP f v):pP g v:=by obtain ⟨a,rfl,h'⟩:=UZ hh;exact h _ h'
theorem NV {f g:Int→Prop} {v:Value} (h:∀ a,f a→g a) (hh:iP f v):iP g v:=by obtain ⟨a,rfl,h'⟩:=NW hh;exact h _ h'
theorem qQI {f g:Nat→List Value→List Value→Prop} {v:Value} (h:∀ a b c,f a b c→g a b c) (hh:fP f v):fP g v:=by obtain ⟨a,b,c,rfl,h'⟩:=qwx hh;exact h _ _ _ h'
def mP (f:Option Nat→Prop):Value→Prop
 | .map r=>f r
 | _=>False
theorem Eh {f:Option Nat→Prop} {v:Value} (h:mP f v):∃ r,v=.map r∧f r:=by
 unfold mP at h
 split at h
 ·exact ⟨_,rfl,h⟩
 ·exact h.elim
theorem Ct {f g:Option Nat→Prop} {v:Value} (h:∀ r,f r→g r) (hh:mP f v):mP g v:=by obtain ⟨r,rfl,h'⟩:=Eh hh;exact h _ h'
def qXF (ag:Bool) (ks:List LK) (m:Mem) (K:Value→Mem→Prop) (r:Nat) (k v:Value):Prop :=
 cL ag ks k=true∧∃ es clock,m r=some (.map es clock)∧∃ o,Vj ag ks k es.toList 0=some o ∧
  match o with
  | some (i,_)=>K undef (m.set r (.map (es.modify i fun e=>{ e with key:=k,val:=v }) clock))
  | none=>K undef (m.set r (.map (es.push { key:=k,val:=v,born:=clock }) (clock+1)))
def qKf (ag:Bool) (ks:List LK) (m:Mem) (K:Value→Mem→Prop) (k:Value):Option Nat→Prop
 | none=>cL ag ks k=true∧K (.tuple #[]) m
 | some r=>cL ag ks k=true∧∃ es clock,m r=some (.map es clock)∧∃ o,Vj ag ks k es.toList 0=some o ∧
  match o with
  | some (i,_)=>K (.tuple #[]) (m.set r (.map (es.eraseIdxIfInBounds i) clock))
  | none=>K (.tuple #[]) (m.set r (.map es clock))
def qJE (m:Mem) (K:Value→Mem→Prop):Option Nat→Prop
 | none=>∀ b,m b=none→K (.pointer (some ⟨b,0,none⟩)) (m.set b (.mapIter none 0 #[] 0))
 | some r=>∃ es clock,m r=some (.map es clock)∧∀ b,m b=none→K (.pointer (some ⟨b,0,none⟩)) (m.set b (.mapIter (some r) clock #[] clock))
def qQK (m:Mem) (K:Value→Mem→Prop) (a:Addr):Prop :=
 a.off=0∧∃ r since seen last,m a.block=some (.mapIter r since seen last) ∧
  match r with
  | none=>K (.tuple #[.bool false]) m
  | some b=>∃ es clock,m b=some (.map es clock)∧(!seen.isEmpty && !es.isEmpty && es.all (·.born≥last))=false ∧
   ((∀ e∈es.toList,seen.contains e.born=false→¬ e.born < since)→K (.tuple #[.bool false]) m) ∧
   ∀ e∈es.toList,seen.contains e.born=false→K (.tuple #[.bool true,e.key,e.val]) (m.set a.block (.mapIter (some b) since (seen.push e.born) clock))
def qZi (zero:List Value) (m:Mem) (K:Value→Mem→Prop):Option Addr→Nat→Nat→Prop
 | none,_,_=>K (.tuple #[]) m
 | some a,n,_=>∃ m',zT m a 0 (List.replicate n zero).flatten=some m'∧K (.tuple #[]) m'
def qwh (m:Mem) (K:Value→Mem→Prop):Option Nat→Prop
 | none=>K (.tuple #[]) m
 | some r=>∃ es clock,m r=some (.map es clock)∧K (.tuple #[]) (m.set r (.map #[] clock))
def qXG (m:Mem) (K:Value→Mem→Prop):Option Addr→Nat→Nat→Prop
 | none,_,_=>False
 | some a,n,c=>∃ arr t fr,m a.block=some (.cells arr t fr)∧(fr=(0,0)∨fr=(arr.size,arr.size+1))∧K (.slice (some a) n c) (m.set a.block (.cells arr t (arr.size,arr.size+1)))
def xs (P:Program) (ro:RO) (args:List Value) (m:Mem) (K:Value→Mem→Prop):Prop :=
 match ro,args with
 | .st n,[x,v]=>pP (fun a=>v.cells.size=n∧∃ m',zT m a 0 v.cells.toList=some m'∧K undef m') x
 | .alc zero t,[]=>∀ b,m b=none→K (.pointer (some ⟨b,0,none⟩)) (m.set b (.cells zero.toArray t))
 | .box t,[v]=>∀ b,m b=none→K (.pointer (some ⟨b,0,none⟩)) (m.set b (.cells v.cells t))
 | .bsl t len zero places,vs=>∃ l,lay zero places vs=some l∧∀ b,m b=none→K (.slice (some ⟨b,0,none⟩) len len) (m.set b (.cells l.toArray t))
 | .mks t bytes zero,[x,y]=>iP (fun n=>iP (fun c=>0≤n∧n≤c∧c≤9223372036854775807∧bytes*c≤281474976710656 ∧
   ∀ b,m b=none→K (.slice (some ⟨b,0,none⟩) n.toNat c.toNat) (m.set b (.cells (List.replicate c.toNat zero).flatten.toArray t))) y) x
 | .app t size bytes zero,[x,y]=>sP (fun base n cap=>sP (fun b k _=>∃ news,ldS m b (k*size)=some news∧Oe size bytes zero t m K base n cap news k) y) x
 | .apps t,[x,y]=>sP (fun base n cap=>zP (fun s=>Oe 1 1 [.int .u8 0] t m K base n cap (s.data.toList.map fun c=>.int .u8 c.toNat) s.size) y) x
 | .appn t size bytes zero,[x,y]=>sP (fun base n cap=>iP (fun k=>0≤k∧k*(bytes:Int)≤281474976710656∧Oe size bytes zero t m K base n cap (List.replicate k.toNat zero).flatten k.toNat) y) x
 | .mrk,[x]=>sP (fun a n c=>qXG m K a n c) x
 | .cpy size,[x,y]=>sP (fun base n _=>sP (fun b k _=>∃ cells,ldS m b (min k n*size)=some cells ∧
   match base with | some a=>∃ m',zT m a 0 cells=some m'∧K (.int .i64 (min k n:Nat)) m' | none=>K (.int .i64 (min k n:Nat)) m) y) x
 | .call f,vs=>MC P f vs m K
 | .callv,x::vs=>fP (fun f first captured=>Ks P f=true∧MC P f (first++vs++captured) m K) x
 | .mkm,[]=>∀ b,m b=none→K (.map (some b)) (m.set b (.map #[] 0))
 | .mup ag ks,[x,k,v]=>mP (fun r=>∃ b,r=some b∧qXF ag ks m K b k v) x
 | .dlt ag ks,[x,k]=>mP (qKf ag ks m K k) x
 | .clr zero,[x]=>sP (qZi zero m K) x
 | .clrm,[x]=>mP (qwh m K) x
 | .rng,[x]=>mP (qJE m K) x
 | .nxt,[x]=>pP (qQK m K) x
 | .s2b t,[x]=>zP (fun s=>∀ c b,s.size≤c→m b=none→K (.slice (some ⟨b,0,none⟩) s.size c) (m.set b (.cells ((s.data.toList.map fun (x:UInt8)=>Value.int .u8 x.toNat)++List.replicate (c - s.size) (Value.int .u8 0)).toArray t (c,c+1)))) x
 | _,_=>False
end Go.Fw
namespace Go.Fw
def QP (P:Program) (t:TypeId):Bool:=match P.underlying t with | some (.struct _) | some (.array _ _) | none=>false | _=>true
def Qh (P:Program) (t:TypeId):Bool:=match P.underlying t with | some (.struct _) | some (.array _ _)=>true | _=>false
section
variable {P:Program} {w:World}
theorem qk {t:TypeId} {d:TypeDesc} (h:P.underlying t=some d):(underlying t).run P w=.ok d w:=run_underlying h w
theorem za {t:TypeId} {i:TypeInfo} (h:P.info? t=some i):(typeInfo t).run P w=.ok i w:=by simp [typeInfo,h]
theorem qn {t:TypeId} {i:TypeInfo} (h:P.info? t=some i):(sizeOf t).run P w=.ok i.size w:=by simp [sizeOf,za h]
theorem fx {t:TypeId} (h:QP P t=true):(isAgg t).run P w=.ok false w:=by
 unfold QP at h
 cases hu:P.underlying t with
 | none=>simp [hu] at h
 | some d=>unfold isAgg;cases d<;>simp_all [qk hu]
theorem uK {t:TypeId} (h:Qh P t=true):(isAgg t).run P w=.ok true w:=by
 unfold Qh at h
 cases hu:P.underlying t with
 | none=>simp [hu] at h
 | some d=>unfold isAgg;cases d<;>simp_all [qk hu]
theorem aB {t:TypeId} {cs:Array Value} {off:Nat} {v:Value} (ht:QP P t=true) (h:cs[off]?=some v):(part t cs off).run P w=.ok v w:=by
 simp [part,fx ht,h]
theorem aA {t:TypeId} {cs:Array Value} {off:Nat} {i:TypeInfo} (ht:Qh P t=true) (hi:P.info? t=some i) :
  (part t cs off).run P w=.ok (.agg (cs.extract off (off+i.size))) w:=by
 simp [part,uK ht,qn hi]
end
def zU (g:TypeId→Option (List LK)):List Field→Nat→Option (List LK)
 | [],_=>some []
 | f::fs,off=>if f.name ≠ "_" ∧ f.offset=off then (g f.type).bind fun l=>(zU g fs (off+l.length)).map (l++·) else none
def sized (P:Program) (t:TypeId) (l:List LK):Option (List LK):=if (P.info? t).map (·.size)=some l.length then some l else none
def qS (P:Program):Nat→TypeId→Option (List LK)
 | 0,_=>none
 | d+1,t =>
  match P.underlying t with
  | some .bool=>sized P t [.b]
  | some (.int k)=>sized P t [.i k]
  | some .string=>sized P t [.s]
  | some (.struct fs)=>if P.stoodInHeld t then none else (zU (qS P d) fs.toList 0).bind (sized P t)
  | some (.array n e)=>(qS P d e).bind fun l=>sized P t (List.replicate n l).flatten
  | _=>none
theorem zV {P:Program} {t:TypeId} {l l':List LK} (h:sized P t l=some l'):l'=l∧∃ i,P.info? t=some i∧i.size=l.length:=by
 unfold sized at h
 split at h
 ·rename_i h1
  obtain ⟨i,hi,e⟩:=Option.map_eq_some_iff.1 h1
  exact ⟨(Option.some.inj h).symm,i,hi,e⟩
 ·cases h
theorem Qf {P:Program} {d:Nat} {t:TypeId} {l:List LK} (h:qS P d t=some l):∃ i,P.info? t=some i∧i.size=l.length:=by
 cases d with
 | zero=>cases h
 | succ d =>
  simp only [qS] at h
  split at h
  ·obtain ⟨rfl,hh⟩:=zV h;exact hh
  ·obtain ⟨rfl,hh⟩:=zV h;exact hh
  ·obtain ⟨rfl,hh⟩:=zV h;exact hh
  ·split at h
   ·cases h
   ·obtain ⟨l',_,h⟩:=Option.bind_eq_some_iff.1 h
    obtain ⟨rfl,hh⟩:=zV h;exact hh
  ·obtain ⟨l',_,h⟩:=Option.bind_eq_some_iff.1 h
   obtain ⟨rfl,hh⟩:=zV h;exact hh
  ·cases h
theorem XC:∀ {k1 k2:List LK} {l l':List Value} {b:Bool},qi (k1++k2) l l'=some b →
  ∃ b1 b2,qi k1 (l.take k1.length) (l'.take k1.length)=some b1∧qi k2 (l.drop k1.length) (l'.drop k1.length)=some b2∧b=(b1 && b2)
 | [],k2,l,l',b,h=>⟨true,b,by simp [qi],by simpa using h,by simp⟩
 | k::k1,k2,x::l,y::l',b,h=>by
  simp only [List.cons_append,qi] at h
  obtain ⟨b0,h0,h⟩:=Option.bind_eq_some_iff.1 h
  obtain ⟨b',h',rfl⟩:=Option.map_eq_some_iff.1 h
  obtain ⟨b1,b2,h1,h2,rfl⟩:=XC h'
  exact ⟨b0 && b1,b2,by simp [qi,h0,h1],by simpa using h2,by rw [Bool.and_assoc]⟩
 | k::k1,k2,[],l',b,h=>by simp [qi] at h
 | k::k1,k2,x::l,[],b,h=>by simp [qi] at h
theorem nS:∀ {k:List LK} {l l':List Value} {b:Bool},qi k l l'=some b→l.length=k.length∧l'.length=k.length
 | [],[],[],_,_=>⟨rfl,rfl⟩
 | k::ks,x::l,y::l',b,h=>by
  simp only [qi] at h
  obtain ⟨b0,_,h⟩:=Option.bind_eq_some_iff.1 h
  obtain ⟨b',h',_⟩:=Option.map_eq_some_iff.1 h
  have:=nS h'
  simp [this.1,this.2]
 | [],x::l,_,_,h=>by simp [qi] at h
 | [],[],y::l',_,h=>by simp [qi] at h
 | k::ks,[],_,_,h=>by simp [qi] at h
 | k::ks,x::l,[],_,h=>by simp [qi] at h
section
variable {P:Program} {w:World}
def qZH (P:Program) (d:Nat) (t:TypeId) (ks:List LK):Prop :=
 ∀ (w:World) (x y:Value) (b:Bool),(Qh P t=true→∃ xs ys,x=.agg xs∧y=.agg ys)→(QP P t=true→∃ k,ks=[k]∧le1 k x y=some b)→qi ks (vcl x) (vcl y)=some b→(Op.equalIn d t x y).run P w=.ok b w
theorem RW (xs:Array Value) (off n:Nat):(xs.extract off (off+n)).toList=(xs.toList.drop off).take n:=by
 rw [Array.toList_extract];simp [List.extract]
theorem vP {d:Nat} {e:TypeId} {ks:List LK} (h:qS P d e=some ks):(QP P e=true∧Qh P e=false∧∃ k,ks=[k])∨(QP P e=false∧Qh P e=true):=by
 cases d with
 | zero=>cases h
 | succ d =>
  simp only [qS] at h
  unfold QP Qh
  split at h
  ·rename_i hu;obtain ⟨rfl,_⟩:=zV h;exact .inl ⟨by rw [hu],by rw [hu],_,rfl⟩
  ·rename_i hu;obtain ⟨rfl,_⟩:=zV h;exact .inl ⟨by rw [hu],by rw [hu],_,rfl⟩
  ·rename_i hu;obtain ⟨rfl,_⟩:=zV h;exact .inl ⟨by rw [hu],by rw [hu],_,rfl⟩
  ·rename_i hu;exact .inr ⟨by rw [hu],by rw [hu]⟩
  ·rename_i hu;exact .inr ⟨by rw [hu],by rw [hu]⟩
  ·cases h
theorem qzK {d:Nat} {e:TypeId} {ks:List LK} (hl:qS P d e=some ks) (ih:qZH P d e ks) {off:Nat} {xs ys:Array Value} {b:Bool}
  (h:qi ks ((xs.toList.drop off).take ks.length) ((ys.toList.drop off).take ks.length)=some b) :
  ∃ x y,(part e xs off).run P w=.ok x w∧(part e ys off).run P w=.ok y w∧(Op.equalIn d e x y).run P w=.ok b w:=by
 rcases vP hl with ⟨hp,ha,k,rfl⟩ | ⟨hp,ha⟩
 ·have hlen:=nS h
  have get:∀ zs:Array Value,((zs.toList.drop off).take [k].length).length=[k].length→∃ z,zs[off]?=some z∧(zs.toList.drop off).take [k].length=[z]:=fun zs hz=>by
   simp only [List.length_take,List.length_drop,Array.length_toList,List.length_cons,List.length_nil,Nat.zero_add] at hz
   have hlt:off < zs.size:=by omega
   refine ⟨zs[off],Array.getElem?_eq_getElem hlt,?_⟩
   rw [List.drop_eq_getElem_cons (by simpa using hlt)]
   simp
  obtain ⟨x,hx,ex⟩:=get xs hlen.1
  obtain ⟨y,hy,ey⟩:=get ys hlen.2
  rw [ex,ey] at h
  have h1:le1 k x y=some b:=by
   simp only [qi] at h
   obtain ⟨b0,h0,h⟩:=Option.bind_eq_some_iff.1 h
   simp only [Option.map_some,Option.some.injEq,Bool.and_true] at h
   rw [h0,h]
  refine ⟨x,y,aB hp hx,aB hp hy,ih w x y b (fun h=>by rw [ha] at h;cases h) (fun _=>⟨k,rfl,h1⟩) ?_⟩
  have hv:vcl x=[x]∧vcl y=[y]:=by
   unfold le1 at h1
   split at h1<;>first | exact ⟨rfl,rfl⟩ | cases h1
  rw [hv.1,hv.2];exact h
 ·obtain ⟨i,hi,hs⟩:=Qf hl
  refine ⟨_,_,aA ha hi,aA ha hi,ih w _ _ b (fun _=>⟨_,_,rfl,rfl⟩) (fun h=>by rw [hp] at h;cases h) ?_⟩
  simp only [vcl,RW,hs]
  exact h
theorem Lf {d:Nat} (ih:∀ e ks,qS P d e=some ks→qZH P d e ks) (xs ys:Array Value):∀ (fs:List Field) (off:Nat) (ks:List LK) (b:Bool),zU (qS P d) fs off=some ks →
  qi ks (xs.toList.drop off) (ys.toList.drop off)=some b→(Op.eqFields d xs ys fs).run P w=.ok b w
 | [],off,ks,b,h,hb=>by
  simp only [zU,Option.some.injEq] at h
  subst h
  have:b=true:=by
   unfold qi at hb
   split at hb<;>simp_all
  subst this
  simp [Op.eqFields]
 | f::fs,off,ks,b,h,hb=>by
  simp only [zU] at h
  split at h
  case isFalse=>cases h
  rename_i hn
  obtain ⟨l,hl,h⟩:=Option.bind_eq_some_iff.1 h
  obtain ⟨r,hr,rfl⟩:=Option.map_eq_some_iff.1 h
  obtain ⟨b1,b2,h1,h2,rfl⟩:=XC hb
  obtain ⟨x,y,p1,p2,p3⟩:=qzK (w:=w) hl (ih _ _ hl) h1
  rw [List.drop_drop,List.drop_drop] at h2
  have:=Lf ih xs ys fs (off+l.length) r b2 hr h2
  simp only [Op.eqFields,hn.1,ne_eq,not_false_eq_true,if_true,hn.2,Sem.run_bind,p1,p2,p3,Result.andThen_ok]
  cases b1
  ·simp
  ·simpa using this
theorem Rz {d:Nat} {e:TypeId} {l:List LK} (hl:qS P d e=some l) (ih:qZH P d e l) (xs ys:Array Value):∀ (m k:Nat) (b:Bool),
  qi (List.replicate m l).flatten (xs.toList.drop (k*l.length)) (ys.toList.drop (k*l.length))=some b→(Op.eqItems d e l.length xs ys (List.range' k m)).run P w=.ok b w
 | 0,k,b,hb=>by
  have:b=true:=by
   unfold qi at hb
   split at hb<;>simp_all
  subst this
  simp [Op.eqItems]
 | m+1,k,b,hb=>by
  rw [List.replicate_succ,List.flatten_cons] at hb
  obtain ⟨b1,b2,h1,h2,rfl⟩:=XC hb
  obtain ⟨x,y,p1,p2,p3⟩:=qzK (w:=w) hl ih h1
  rw [List.drop_drop,List.drop_drop,← Nat.succ_mul] at h2
  have:=Rz hl ih xs ys m (k+1) b2 h2
  simp only [List.range'_succ,Op.eqItems,Sem.run_bind,p1,p2,p3,Result.andThen_ok]
  cases b1
  ·simp
  ·simpa using this
theorem qzR:∀ (d:Nat) (t:TypeId) (ks:List LK),qS P d t=some ks→qZH P d t ks
 | 0,_,_,h=>by cases h
 | d+1,t,ks,h=>by
  have h0:=h
  intro w x y b hagg hpl hb
  simp only [qS] at h
  have leaf:QP P t=true→(∀ k,ks=[k]→le1 k x y=some b→(Op.equalIn (d+1) t x y).run P w=.ok b w)→(Op.equalIn (d+1) t x y).run P w=.ok b w:=fun hp hk=>by
   obtain ⟨k,e,h1⟩:=hpl hp
   exact hk k e h1
  split at h
  ·rename_i hu
   obtain ⟨rfl,_⟩:=zV h
   refine leaf (by simp [QP,hu]) fun k e h1=>?_
   cases e
   unfold le1 at h1
   split at h1<;>first | (cases h1;done) | skip
   ·simp only [Option.some.injEq] at h1;subst h1;exact run_equalIn_bool' w d t _ _ hu
   ·rename_i hh;cases hh
   ·rename_i hh;cases hh
  ·rename_i k0 hu
   obtain ⟨rfl,_⟩:=zV h
   refine leaf (by simp [QP,hu]) fun k e h1=>?_
   cases e
   unfold le1 at h1
   split at h1<;>first | (cases h1;done) | skip
   ·rename_i hh;cases hh
   ·rename_i hh
    cases hh
    split at h1
    ·rename_i hk
     simp only [Option.some.injEq] at h1;subst h1
     rw [hk.1,hk.2];exact run_equalIn_int w d t _ _ _ _ hu
    ·cases h1
   ·rename_i hh;cases hh
  ·rename_i hu
   obtain ⟨rfl,_⟩:=zV h
   refine leaf (by simp [QP,hu]) fun k e h1=>?_
   cases e
   unfold le1 at h1
   split at h1<;>first | (cases h1;done) | skip
   ·rename_i hh;cases hh
   ·rename_i hh;cases hh
   ·simp only [Option.some.injEq] at h1;subst h1;rw [← ByteArray.toList_eq,← ByteArray.toList_eq];exact run_equalIn_string w d t _ _ hu
  ·rename_i fs hu
   split at h
   ·cases h
   ·rename_i hst
    obtain ⟨l,hl,h⟩:=Option.bind_eq_some_iff.1 h
    obtain ⟨rfl,_⟩:=zV h
    obtain ⟨xs,ys,rfl,rfl⟩:=hagg (by simp [Qh,hu])
    have hf:P.fieldsOf t=fs:=by simp [Program.fieldsOf,hu]
    rw [run_equalIn_struct w d t xs ys (by rw [hf];exact hu) (by simpa using hst),hf]
    exact Lf (fun e ks h=>qzR d e ks h) xs ys fs.toList 0 _ b hl (by simpa [vcl] using hb)
  ·rename_i n e hu
   obtain ⟨l,hl,h⟩:=Option.bind_eq_some_iff.1 h
   obtain ⟨rfl,_⟩:=zV h
   obtain ⟨xs,ys,rfl,rfl⟩:=hagg (by simp [Qh,hu])
   obtain ⟨i,hi,hs⟩:=Qf hl
   have hc:P.cellsOf e=l.length:=by simp [Program.cellsOf,hi,hs]
   rw [run_equalIn_array w d xs ys hu hi,hc,List.range_eq_range']
   exact Rz hl (qzR d e l hl) xs ys n 0 b (by simpa [vcl] using hb)
  ·cases h
end
end Go.Fw
namespace Go.Fw
section
variable {P:Program} {w:World}
theorem Am:∀ {ks:List LK} {l l':List Value} {b:Bool},qi ks l l'=some b→qi ks l l=some true
 | [],[],[],_,_=>rfl
 | k::ks,x::l,y::l',b,h=>by
  simp only [qi] at h ⊢
  obtain ⟨b0,h0,h⟩:=Option.bind_eq_some_iff.1 h
  obtain ⟨b',h',_⟩:=Option.map_eq_some_iff.1 h
  have h1:le1 k x x=some true:=by
   unfold le1 at h0 ⊢
   split at h0
   ·simp
   ·split at h0
    ·rename_i hk;simp [hk.1]
    ·cases h0
   ·simp
   ·cases h0
  rw [h1,Option.bind_some,Am h'];rfl
 | [],x::l,_,_,h=>by simp [qi] at h
 | [],[],y::l',_,h=>by simp [qi] at h
 | k::ks,[],_,_,h=>by simp [qi] at h
 | k::ks,x::l,[],_,h=>by simp [qi] at h
theorem Za {v:Value} (h:xB true v=true):∃ xs,v=.agg xs:=by
 cases v<;>simp [xB] at h
 exact ⟨_,rfl⟩
theorem Vh {ag:Bool} {ks:List LK} {k:Value} (h:cL ag ks k=true):xB ag k=true∧qi ks (vcl k) (vcl k)=some true:=by
 unfold cL at h
 simp only [Bool.and_eq_true] at h
 obtain ⟨b,hb⟩:=Option.isSome_iff_exists.1 h.2
 exact ⟨h.1,Am hb⟩
theorem qxn {t:TypeId} {ks:List LK} (hl:qS P 10000 t=some ks) {x y:Value} {b:Bool} (hx:xB (Qh P t) x=true) (hy:xB (Qh P t) y=true) (h:qi ks (vcl x) (vcl y)=some b) :
  (Op.equal t x y).run P w=.ok b w:=by
 refine qzR 10000 t ks hl w x y b (fun ha=>?_) (fun hp=>?_) h
 ·rw [ha] at hx hy
  obtain ⟨xs,rfl⟩:=Za hx
  obtain ⟨ys,rfl⟩:=Za hy
  exact ⟨_,_,rfl,rfl⟩
 ·rcases vP hl with ⟨_,ha,k,rfl⟩ | ⟨hp',_⟩
  ·refine ⟨k,rfl,?_⟩
   rw [ha] at hx hy
   have one:∀ v:Value,xB false v=true→vcl v=[v]:=fun v hv=>by cases v<;>simp [xB] at hv<;>rfl
   rw [one x hx,one y hy] at h
   simp only [qi] at h
   obtain ⟨b0,h0,h⟩:=Option.bind_eq_some_iff.1 h
   simp only [Option.map_some,Option.some.injEq,Bool.and_true] at h
   rw [h0,h]
  ·rw [hp] at hp';cases hp'
theorem mz {t:TypeId} {ks:List LK} (hl:qS P 10000 t=some ks) {k:Value} (hk:xB (Qh P t) k=true):∀ (es:List MapEntry) (i:Nat) (r:Option (Nat×Value)),Vj (Qh P t) ks k es i=some r →
  (Instr.findAsking t k es i).run P w=.ok r w
 | [],i,r,h=>by simp only [Vj,Option.some.injEq] at h;subst h;simp [Instr.findAsking]
 | e::es,i,r,h=>by
  simp only [Vj] at h
  split at h
  case isFalse=>cases h
  rename_i he
  obtain ⟨b,hb,h⟩:=Option.bind_eq_some_iff.1 h
  have h1:=qxn (w:=w) hl hk he hb
  cases b with
  | true=>simp only [if_true,Option.some.injEq] at h;subst h;simp [Instr.findAsking,h1]
  | false =>
   simp only [Bool.false_eq_true,if_false] at h
   simp [Instr.findAsking,h1,mz hl hk es (i+1) r h]
theorem ow {t:TypeId} {ks:List LK} (hl:qS P 10000 t=some ks) {k:Value} (hk:xB (Qh P t) k=true) {es:List MapEntry} {r:Option (Nat×Value)} (h:Vj (Qh P t) ks k es 0=some r) :
  (Instr.findKey t k es).run P w=.ok r w:=by
 obtain ⟨d,hd⟩:∃ d,P.underlying t=some d:=by
  cases hu:P.underlying t with
  | none=>simp [qS,hu] at hl
  | some d=>exact ⟨d,rfl⟩
 have hnow:∀ (es:List MapEntry) (i:Nat) (r r':Option (Nat×Value)),Vj (Qh P t) ks k es i=some r→Instr.findNow d k es i=some r'→r'=r:=by
  intro es
  induction es with
  | nil=>intro i r r' h h';simp only [Vj,Instr.findNow,Option.some.injEq] at h h';rw [← h,← h']
  | cons e es ih =>
   intro i r r' h h'
   obtain ⟨ky,vl,bn⟩:=e
   simp only [Vj] at h
   split at h
   case isFalse=>cases h
   rename_i he
   obtain ⟨b,hb,h⟩:=Option.bind_eq_some_iff.1 h
   simp only [Instr.findNow] at h'
   have same:∀ b',Instr.sameNow d k ky=some b'→b'=b:=fun b' hb'=>by
    clear h h' ih
    unfold Instr.sameNow at hb'
    split at hb'
    ·split at hb'
     ·simp only [Option.some.injEq] at hb';subst hb'
      simp only [vcl] at hb
      rcases vP hl with ⟨_,_,q,rfl⟩ | ⟨_,ha⟩
      ·simp only [qi] at hb
       obtain ⟨b0,h0,hb⟩:=Option.bind_eq_some_iff.1 hb
       simp only [Option.map_some,Option.some.injEq,Bool.and_true] at hb
       unfold le1 at h0
       split at h0<;>simp_all
      ·simp [Qh,hd] at ha
     ·cases hb'
    ·simp only [Option.some.injEq] at hb';subst hb'
     simp only [vcl] at hb
     rcases vP hl with ⟨_,_,q,rfl⟩ | ⟨_,ha⟩
     ·simp only [qi] at hb
      obtain ⟨b0,h0,hb⟩:=Option.bind_eq_some_iff.1 hb
      simp only [Option.map_some,Option.some.injEq,Bool.and_true] at hb
      cases q<;>simp only [le1,reduceCtorEq,Option.some.injEq] at h0
      rw [← (show b0=b by assumption),← h0,beq_toListBytes,ByteArray.toList_eq,ByteArray.toList_eq]
     ·simp [Qh,hd] at ha
    ·simp only [Option.some.injEq] at hb';subst hb'
     simp only [vcl] at hb
     rcases vP hl with ⟨_,_,q,rfl⟩ | ⟨_,ha⟩
     ·simp only [qi] at hb
      obtain ⟨b0,h0,hb⟩:=Option.bind_eq_some_iff.1 hb
      simp only [Option.map_some,Option.some.injEq,Bool.and_true] at hb
      unfold le1 at h0
      split at h0<;>simp_all
     ·simp [Qh,hd] at ha
    ·cases hb'
   split at h'
   ·rename_i hs
    have:=same _ hs
    subst this
    simp only [if_true,Option.some.injEq] at h h'
    rw [← h,← h']
   ·rename_i hs
    have:=same _ hs
    subst this
    simp only [Bool.false_eq_true,if_false] at h
    exact ih (i+1) r r' h h'
   ·cases h'
 unfold Instr.findKey
 simp only [Sem.run_bind,qk hd,Result.andThen_ok]
 cases hn:Instr.findNow d k es 0 with
 | none=>exact mz hl hk es 0 r h
 | some r'=>rw [hnow es 0 r r' h hn];simp
def CkOk (P:Program) (em:Bool) (d:Nat) (t:TypeId) (ks:List LK):Prop :=
 ∀ (w:World) (x:Value),xB (Qh P t) x=true→qi ks (vcl x) (vcl x)=some true→(Instr.checkKey em d t x).run P w=.ok () w
theorem qzV {em:Bool} {d:Nat} {e:TypeId} {ks:List LK} (hl:qS P d e=some ks) (ih:CkOk P em d e ks) {off:Nat} {xs:Array Value}
  (h:qi ks ((xs.toList.drop off).take ks.length) ((xs.toList.drop off).take ks.length)=some true) :
  ∃ x,(part e xs off).run P w=.ok x w∧(Instr.checkKey em d e x).run P w=.ok () w:=by
 rcases vP hl with ⟨hp,ha,k,rfl⟩ | ⟨hp,ha⟩
 ·have hlen:=(nS h).1
  simp only [List.length_take,List.length_drop,Array.length_toList,List.length_cons,List.length_nil,Nat.zero_add] at hlen
  have hlt:off < xs.size:=by omega
  have ex:(xs.toList.drop off).take [k].length=[xs[off]]:=by
   rw [List.drop_eq_getElem_cons (by simpa using hlt)]
   simp
  rw [ex] at h
  have h1:le1 k xs[off] xs[off]=some true:=by
   simp only [qi] at h
   obtain ⟨b0,h0,h⟩:=Option.bind_eq_some_iff.1 h
   simp only [Option.map_some,Option.some.injEq,Bool.and_true] at h
   rw [h0,h]
  refine ⟨xs[off],aB hp (Array.getElem?_eq_getElem hlt),ih w _ ?_ ?_⟩
  ·rw [ha]
   unfold le1 at h1
   split at h1<;>first | (rename_i e1 _;rw [e1];rfl) | (rename_i e1;rw [e1];rfl) | cases h1 | simp_all [xB]
  ·have hv:vcl xs[off]=[xs[off]]:=by
    unfold le1 at h1
    split at h1<;>simp_all [vcl]
   rw [hv];exact h
 ·obtain ⟨i,hi,hs⟩:=Qf hl
  refine ⟨_,aA ha hi,ih w _ (by rw [ha];rfl) ?_⟩
  simp only [vcl,RW,hs]
  exact h
theorem eS {k1 k2:List LK} {l:List Value} (h:qi (k1++k2) l l=some true):qi k1 (l.take k1.length) (l.take k1.length)=some true∧qi k2 (l.drop k1.length) (l.drop k1.length)=some true:=by
 obtain ⟨b1,b2,h1,h2,h3⟩:=XC h
 have:b1=true∧b2=true:=by simpa using h3.symm
 rw [this.1] at h1;rw [this.2] at h2
 exact ⟨h1,h2⟩
theorem qwn (em:Bool):∀ (d:Nat) (t:TypeId) (ks:List LK),qS P d t=some ks→CkOk P em d t ks
 | 0,_,_,h=>by cases h
 | d+1,t,ks,h=>by
  intro w x hx hb
  simp only [qS] at h
  split at h
  ·rename_i hu
   unfold Instr.checkKey
   simp only [Sem.run_bind,qk hu,Result.andThen_ok]
   cases x<;>rfl
  ·rename_i hu
   unfold Instr.checkKey
   simp only [Sem.run_bind,qk hu,Result.andThen_ok]
   cases x<;>rfl
  ·rename_i hu
   unfold Instr.checkKey
   simp only [Sem.run_bind,qk hu,Result.andThen_ok]
   cases x<;>rfl
  ·rename_i fs hu
   split at h
   ·cases h
   ·obtain ⟨l,hl,h⟩:=Option.bind_eq_some_iff.1 h
    obtain ⟨rfl,_⟩:=zV h
    have ha:Qh P t=true:=by simp [Qh,hu]
    rw [ha] at hx
    obtain ⟨xs,rfl⟩:=Za hx
    unfold Instr.checkKey
    simp only [Sem.run_bind,qk hu,Result.andThen_ok]
    rw [← Array.forIn_toList]
    have go:∀ (L:List Field) (off:Nat) (ks:List LK),zU (qS P d) L off=some ks→qi ks (xs.toList.drop off) (xs.toList.drop off)=some true →
      (forIn L PUnit.unit (fun f _=>do
       if f.name ≠ "_" then Instr.checkKey em d f.type (← part f.type xs f.offset)
       pure (ForInStep.yield PUnit.unit)):Sem PUnit).run P w=.ok () w:=by
     intro L
     induction L with
     | nil=>intro off ks _ _;simp
     | cons f L ih =>
      intro off ks hk hb
      simp only [zU] at hk
      split at hk
      case isFalse=>cases hk
      rename_i hn
      obtain ⟨l1,hl1,hk⟩:=Option.bind_eq_some_iff.1 hk
      obtain ⟨r,hr,rfl⟩:=Option.map_eq_some_iff.1 hk
      obtain ⟨h1,h2⟩:=eS hb
      obtain ⟨v,p1,p2⟩:=qzV (w:=w) hl1 (qwn em d _ _ hl1) h1
      rw [List.drop_drop] at h2
      rw [List.forIn_cons]
      simp only [Sem.run_bind,hn.1,ne_eq,not_false_eq_true,if_true,hn.2,p1,p2,Result.andThen_ok,Sem.run_pure]
      exact ih _ _ hr h2
    have:=go fs.toList 0 _ hl (by simpa [vcl] using hb)
    simp at this ⊢
    rw [this];rfl
  ·rename_i n e hu
   obtain ⟨l,hl,h⟩:=Option.bind_eq_some_iff.1 h
   obtain ⟨rfl,_⟩:=zV h
   have ha:Qh P t=true:=by simp [Qh,hu]
   rw [ha] at hx
   obtain ⟨xs,rfl⟩:=Za hx
   obtain ⟨i,hi,hs⟩:=Qf hl
   unfold Instr.checkKey
   simp only [Sem.run_bind,qk hu,Result.andThen_ok]
   simp only [Std.Legacy.Range.forIn_eq_forIn_range',Std.Legacy.Range.size,Nat.sub_zero,Nat.add_one_sub_one,Nat.div_one]
   have go:∀ (m k:Nat),qi (List.replicate m l).flatten (xs.toList.drop (k*l.length)) (xs.toList.drop (k*l.length))=some true →
     (forIn (List.range' k m) PUnit.unit (fun i _=>do
      Instr.checkKey em d e (← part e xs (i*(← sizeOf e)))
      pure (ForInStep.yield PUnit.unit)):Sem PUnit).run P w=.ok () w:=by
    intro m
    induction m with
    | zero=>intro k _;simp
    | succ m ih =>
     intro k hb
     rw [List.replicate_succ,List.flatten_cons] at hb
     obtain ⟨h1,h2⟩:=eS hb
     obtain ⟨v,p1,p2⟩:=qzV (w:=w) hl (qwn em d _ _ hl) h1
     rw [List.drop_drop,← Nat.succ_mul] at h2
     rw [List.range'_succ,List.forIn_cons]
     simp only [Sem.run_bind,qn hi,hs,Result.andThen_ok,p1,p2,Sem.run_pure]
     exact ih (k+1) h2
   have:=go n 0 (by simpa [vcl] using hb)
   simp at this ⊢
   rw [this];rfl
  ·cases h
theorem aY {em:Bool} {t:TypeId} {ks:List LK} (hl:qS P 10000 t=some ks) {k:Value} (h:cL (Qh P t) ks k=true):(Instr.checkKey em 10000 t k).run P w=.ok () w:=by
 obtain ⟨h1,h2⟩:=Vh h
 exact qwn em 10000 t ks hl w k h1 h2
theorem qvt {k:LK} {x y:Value} (h:le1 k x y=some true):x=y:=by
 unfold le1 at h
 split at h
 ·simp only [Option.some.injEq,beq_iff_eq] at h;rw [h]
 ·split at h
  ·rename_i hk
   simp only [Option.some.injEq,beq_iff_eq] at h;rw [h,hk.1,hk.2]
  ·cases h
 ·simp only [Option.some.injEq,beq_iff_eq] at h
  rename_i a b
  obtain ⟨⟨a⟩⟩:=a
  obtain ⟨⟨b⟩⟩:=b
  simp only at h;rw [h]
 ·cases h
theorem Al:∀ {ks:List LK} {l l':List Value},qi ks l l'=some true→l=l'
 | [],[],[],_=>rfl
 | k::ks,x::l,y::l',h=>by
  simp only [qi] at h
  obtain ⟨b0,h0,h⟩:=Option.bind_eq_some_iff.1 h
  obtain ⟨b',h',e⟩:=Option.map_eq_some_iff.1 h
  simp only [Bool.and_eq_true] at e
  rw [e.1] at h0;rw [e.2] at h'
  rw [qvt h0,Al h']
 | [],x::l,_,h=>by simp [qi] at h
 | [],[],y::l',h=>by simp [qi] at h
 | k::ks,[],_,h=>by simp [qi] at h
 | k::ks,x::l,[],h=>by simp [qi] at h
theorem qvG {ag:Bool} {ks:List LK} {x y:Value} (hx:xB ag x=true) (hy:xB ag y=true) (h:qi ks (vcl x) (vcl y)=some true):x=y:=by
 have hv:=Al h
 cases ag with
 | true =>
  obtain ⟨xs,rfl⟩:=Za hx
  obtain ⟨ys,rfl⟩:=Za hy
  simp only [vcl] at hv
  rw [Array.toList_inj.1 hv]
 | false =>
  have one:∀ v:Value,xB false v=true→vcl v=[v]:=fun v hv=>by cases v<;>simp [xB] at hv<;>rfl
  rw [one x hx,one y hy] at hv
  simpa using hv
theorem RX {ag:Bool} {ks:List LK} {k:Value} (hk:xB ag k=true):∀ {es:List MapEntry} {i j:Nat} {v:Value},Vj ag ks k es i=some (some (j,v))→∃ n e,j=i+n∧es[n]?=some e∧e.key=k∧e.val=v
 | [],i,j,v,h=>by simp [Vj] at h
 | e::es,i,j,v,h=>by
  simp only [Vj] at h
  split at h
  case isFalse=>cases h
  rename_i he
  obtain ⟨b,hb,h⟩:=Option.bind_eq_some_iff.1 h
  cases b with
  | true =>
   simp only [if_true,Option.some.injEq,Prod.mk.injEq] at h
   exact ⟨0,e,by simp [h.1],rfl,(qvG hk he hb).symm,h.2⟩
  | false =>
   simp only [Bool.false_eq_true,if_false] at h
   obtain ⟨n,e',h1,h2,h3⟩:=RX hk h
   exact ⟨n+1,e',by omega,by simpa using h2,h3⟩
theorem qxc {k:LK} {x:Value} (h:le1 k x x=some true) (n:Nat):Instr.sameBits n x x=true:=by
 unfold le1 at h
 split at h
 ·cases n<;>simp [Instr.sameBits]
 ·cases n<;>simp [Instr.sameBits]
 ·have e:∀ a:ByteArray,(a == a)=true:=fun a=>by rw [beq_toListBytes];simp
  cases n<;>simp only [Instr.sameBits,e]
 ·cases h
theorem qvH {ag:Bool} {ks:List LK} {k:Value} (h:cL ag ks k=true):Instr.sameBits 10000 k k=true:=by
 obtain ⟨h1,h2⟩:=Vh h
 have all:∀ {ks:List LK} {l:List Value},qi ks l l=some true→∀ v∈l,∀ n,Instr.sameBits n v v=true:=by
  intro ks
  induction ks with
  | nil =>
   intro l h v hv
   cases l with
   | nil=>cases hv
   | cons x l=>simp [qi] at h
  | cons k ks ih =>
   intro l h v hv n
   cases l with
   | nil=>cases hv
   | cons x l =>
    simp only [qi] at h
    obtain ⟨b0,h0,h⟩:=Option.bind_eq_some_iff.1 h
    obtain ⟨b',h',e⟩:=Option.map_eq_some_iff.1 h
    simp only [Bool.and_eq_true] at e
    rw [e.1] at h0;rw [e.2] at h'
    rcases List.mem_cons.1 hv with rfl | hv
    ·exact qxc h0 n
    ·exact ih h' v hv n
 cases ag with
 | true =>
  obtain ⟨xs,rfl⟩:=Za h1
  show Instr.sameBits (9999+1) (.agg xs) (.agg xs)=true
  simp only [Instr.sameBits,beq_self_eq_true,Bool.true_and,List.all_eq_true]
  rintro ⟨a,b⟩ hp
  obtain ⟨i,hi,e⟩:=List.mem_iff_getElem.1 hp
  rw [List.getElem_zip] at e
  have hia:i < xs.toList.length:=by simpa using hi
  cases e
  exact all h2 _ (List.getElem_mem hia) 9999
 | false =>
  have one:vcl k=[k]:=by cases k<;>simp [xB] at h1<;>rfl
  rw [one] at h2
  exact all h2 k (List.mem_singleton.2 rfl) 10000
theorem qkr {ag:Bool} {ks:List LK} {k:Value} (h:cL ag ks k=true):(Instr.keyThatStays k k).run P w=.ok k w:=by
 simp [Instr.keyThatStays,qvH h]
end
end Go.Fw
namespace Go.Fw
def zeroOf (P:Program) (t:TypeId):Option (Value×Nat):=(P.info? t).bind fun i=>i.zero.map fun z=>(z,i.size)
def placesOf (P:Program) (ps:List Nat) (fields:Array Field):Option (List (Nat×Nat)) :=
 ps.mapM fun i=>(fields[i]?).bind fun f=>(P.info? f.type).map fun j=>(f.offset,j.size)
def RK (P:Program) (fields:Array Field):Bool:=fields.all fun f=>(P.info? f.type).isSome
def qXS:Operand→Bool
 | .const (.pointer none)=>true
 | _=>false
def Dd (P:Program) (ng:Bool) (e:TypeId) (x y:Operand):Option (RO×List Operand) :=
 if qXS y then some (.eqp ng,[x,y]) else match P.info? e with
  | some i=>if i.size=0 then none else some (.eqq ng,[x,y])
  | none=>none
def My (P:Program) (op:BinOp) (t:TypeId) (x y:Operand):Option (RO×List Operand) :=
 match op,P.underlying t with
 | .add,some (.int _) | .sub,some (.int _) | .mul,some (.int _)=>some (.iar op,[x,y])
 | .quo,some (.int _) | .rem,some (.int _)=>some (.idv op,[x,y])
 | .and,some (.int _) | .or,some (.int _) | .xor,some (.int _)=>some (.ibt op,[x,y])
 | .shl,some (.int _) | .shr,some (.int _)=>some (.ish op,[x,y])
 | .eql,some (.int _) | .neq,some (.int _) | .lss,some (.int _) | .leq,some (.int _) | .gtr,some (.int _) | .geq,some (.int _)=>some (.icm op,[x,y])
 | .eql,some .bool=>some (.beq false,[x,y])
 | .neq,some .bool=>some (.beq true,[x,y])
 | .eql,some (.pointer e)=>Dd P false e x y
 | .neq,some (.pointer e)=>Dd P true e x y
 | .eql,some (.slice _)=>some (.eqs false,[x,y])
 | .neq,some (.slice _)=>some (.eqs true,[x,y])
 | .eql,some (.map _ _)=>some (.eqm false,[x,y])
 | .neq,some (.map _ _)=>some (.eqm true,[x,y])
 | .add,some .string | .eql,some .string | .neq,some .string | .lss,some .string | .leq,some .string | .gtr,some .string | .geq,some .string=>some (.str op,[x,y])
 | .eql,some (.struct _) | .eql,some (.array _ _)=>if P.eqGuardType P.depth t then none else (qS P 10000 t).map fun ks=>(.eqc false ks,[x,y])
 | .neq,some (.struct _) | .neq,some (.array _ _)=>if P.eqGuardType P.depth t then none else (qS P 10000 t).map fun ks=>(.eqc true ks,[x,y])
 | _,_=>none
def pq (P:Program) (t:TypeId) (x:Operand) (lo hi:Option Operand):Option (RO×List Operand) :=
 match P.underlying t with
 | some (.slice e)=>(P.info? e).map fun i=>(.slc i.size lo.isSome hi.isSome,x::lo.toList++hi.toList)
 | some .string=>some (.slcs lo.isSome hi.isSome,x::lo.toList++hi.toList)
 | some (.pointer arr) =>
  match P.underlying arr with
  | some (.array n e)=>(P.info? e).map fun i=>(.sla n i.size lo.isSome hi.isSome,x::lo.toList++hi.toList)
  | _=>none
 | _=>none
def fR (P:Program) (t:TypeId) (x:Operand) (lo hi mx:Option Operand):Option (RO×List Operand) :=
 match P.underlying t,hi,mx with
 | some (.slice e),some hi,some mx=>(P.info? e).map fun i=>(.slc3 i.size lo.isSome,x::lo.toList++[hi,mx])
 | _,_,_=>none
def mY (P:Program) (t:TypeId):Option (Bool×List LK×TypeId) :=
 match P.underlying t with
 | some (.map k e)=>(qS P 10000 k).map fun ks=>(Qh P k,ks,e)
 | _=>none
def fS (P:Program) (t:TypeId) (x i:Operand) (ok:Bool):Option (RO×List Operand) :=
 (mY P t).bind fun k=>(zeroOf P k.2.2).map fun z=>(.lkp k.1 k.2.1 z.1 ok,[x,i])
def isU8:Option Value→Bool
 | some (.int .u8 0)=>true
 | _=>false
def px (P:Program) (t:TypeId) (parts:List (Nat×Operand)):Option (RO×List Operand) :=
 (zeroOf P t).bind fun z =>
  match P.underlying t with
  | some (.struct fields)=>if RK P fields then (placesOf P (parts.map (·.1)) fields).map fun ps=>(.bld z.1.cells.toList ps,parts.map (·.2)) else none
  | some (.array _ e)=>(P.info? e).map fun i=>(.bld z.1.cells.toList (parts.map fun p=>(p.1*i.size,i.size)),parts.map (·.2))
  | _=>none
def ae (P:Program) (t:TypeId) (len:Nat) (parts:List (Nat×Operand)):Option (RO×List Operand) :=
 match P.underlying t with
 | some (.slice e)=>(P.info? e).bind fun i=>(i.zero).bind fun z =>
  if z.cells.size=i.size∧0 < i.size∧len*i.size≤16777216 then some (.bsl e len (List.replicate len z.cells.toList).flatten (parts.map fun p=>(p.1*i.size,i.size)),parts.map (·.2)) else none
 | _=>none
def qkO (op:BinOp) (x y:Operand):Option (RO×List Operand) :=
 match y with
 | .const .nilIface=>(match op with | .eql=>some (.eqi false,[x,y]) | .neq=>some (.eqi true,[x,y]) | _=>none)
 | _=>none
def u8T (P:Program) (e:TypeId):Bool:=match P.underlying e with | some (.int .u8)=>true | _=>false
theorem qyZ {P:Program} {e:TypeId} (h:u8T P e=true):P.underlying e=some (.int .u8):=by
 unfold u8T at h
 split at h
 ·assumption
 ·cases h
def qQp (P:Program) (t:TypeId):Bool:=match P.underlying t with | some (.interface _)=>true | _=>false
def Cm (P:Program) (op:BinOp) (t:TypeId) (x y:Operand):Option (RO×List Operand):=if qQp P t then qkO op x y else My P op t x y
def Mw (P:Program) (argTypes:Array TypeId) (xs:List Operand):Option (RO×List Operand) :=
 match (argTypes[0]?).bind P.underlying with
 | some (.slice _)=>some (.cap,xs)
 | _=>none
def Mk (P:Program) (argTypes:Array TypeId) (xs:List Operand):Option (RO×List Operand) :=
 match (argTypes[0]?).bind P.underlying with
 | some (.slice _)=>some (.len,xs)
 | some .string=>some (.lenz,xs)
 | some (.map _ _)=>some (.lenm,xs)
 | _=>none
def MQ (P:Program) (argTypes:Array TypeId) (xs:List Operand):Option (RO×List Operand) :=
 match (argTypes[0]?).bind P.underlying with
 | some (.slice e) =>
  match (argTypes[1]?).bind P.underlying with
  | some (.slice _)=>(P.info? e).bind fun i=>(i.zero).bind fun z=>if z.cells.size=i.size∧0 < i.size then some (.app e i.size i.bytes z.cells.toList,xs) else none
  | some .string=>(P.info? e).bind fun i=>if i.size=1∧i.bytes=1∧isU8 i.zero then some (.apps e,xs) else none
  | some (.int .i64)=>(P.info? e).bind fun i=>(i.zero).bind fun z=>if z.cells.size=i.size∧0 < i.size then some (.appn e i.size i.bytes z.cells.toList,xs) else none
  | _=>none
 | _=>none
def Cl (P:Program) (argTypes:Array TypeId) (xs:List Operand):Option (RO×List Operand) :=
 match (argTypes[0]?).bind P.underlying with
 | some (.slice e)=>(P.info? e).map fun i=>(.cpy i.size,xs)
 | _=>none
def fT (P:Program) (argTypes:Array TypeId) (xs:List Operand):Option (RO×List Operand) :=
 ((argTypes[0]?).bind (mY P)).map fun k=>(.dlt k.1 k.2.1,xs)
def pz (P:Program) (argTypes:Array TypeId) (xs:List Operand):Option (RO×List Operand) :=
 match (argTypes[0]?).bind P.underlying with
 | some (.slice e)=>(zeroOf P e).map fun z=>(.clr z.1.cells.toList,xs)
 | some (.map _ _)=>some (.clrm,xs)
 | _=>none
def two (ro:RO) (xs:List Operand):Option (RO×List Operand):=if xs.length=2 then some (ro,xs) else none
def ma (P:Program) (b:Builtin) (argTypes:Array TypeId) (xs:List Operand):Option (RO×List Operand) :=
 match b with
 | .len=>Mk P argTypes xs
 | .append=>MQ P argTypes xs
 | .copy=>Cl P argTypes xs
 | .min=>some (.mn,xs)
 | .max=>some (.mx,xs)
 | .delete=>fT P argTypes xs
 | .clear=>pz P argTypes xs
 | .cap=>Mw P argTypes xs
 | _=>none
theorem qKZ:Extern.allNextRows.lookup "internal/bytealg.IndexByteString"=none:=by kernel_rfl
theorem qKQ:Extern.allNextRows.lookup ""=none:=by kernel_rfl
theorem rH:Extern.allGenericRows.lookup "internal/bytealg.IndexByteString"=none:=by kernel_rfl
theorem ext_t:Extern.allTypedRows.lookup "internal/bytealg.IndexByteString"=none:=by kernel_rfl
theorem ext_a:Extern.allRows.lookup "internal/bytealg.IndexByteString"=some Extern.BytealgIndexByte.indexByte:=by kernel_rfl
theorem qZk {fn:Func} (h:fn.name="internal/bytealg.IndexByteString") (ho:fn.origin=""):Extern.findNext fn=none∧Extern.find fn=some Extern.BytealgIndexByte.indexByte:=by
 simp [Extern.findNext,Extern.find,h,ho,qKZ,qKQ,rH,ext_t,ext_a]
def qvN (s:String):Bool:=s == "slices.overlaps[concord/disk.file]" || s == "slices.overlaps[*concord/core.lead]" || s == "slices.overlaps[*concord/core.wish]"
theorem qZx:Extern.allNextRows.lookup "slices.overlaps[concord/disk.file]"=none:=by kernel_rfl
theorem qZj:Extern.allGenericRows.lookup "slices.overlaps[concord/disk.file]"=none:=by kernel_rfl
theorem qZz:Extern.allTypedRows.lookup "slices.overlaps[concord/disk.file]"=none:=by kernel_rfl
theorem qZq:Extern.allRows.lookup "slices.overlaps[concord/disk.file]"=none:=by kernel_rfl
theorem qQU:Extern.allNextRows.lookup "slices.overlaps[*concord/core.lead]"=none:=by kernel_rfl
theorem qQT:Extern.allGenericRows.lookup "slices.overlaps[*concord/core.lead]"=none:=by kernel_rfl
theorem qQS:Extern.allTypedRows.lookup "slices.overlaps[*concord/core.lead]"=none:=by kernel_rfl
theorem qQR:Extern.allRows.lookup "slices.overlaps[*concord/core.lead]"=none:=by kernel_rfl
theorem qQP:Extern.allNextRows.lookup "slices.overlaps[*concord/core.wish]"=none:=by kernel_rfl
theorem qQO:Extern.allGenericRows.lookup "slices.overlaps[*concord/core.wish]"=none:=by kernel_rfl
theorem qQN:Extern.allTypedRows.lookup "slices.overlaps[*concord/core.wish]"=none:=by kernel_rfl
theorem qQM:Extern.allRows.lookup "slices.overlaps[*concord/core.wish]"=none:=by kernel_rfl
theorem qqj:Extern.allNextRows.lookup "slices.overlaps"=none:=by kernel_rfl
theorem qqz:Extern.allGenericRows.lookup "slices.overlaps"=none:=by kernel_rfl
theorem qqq:Extern.allTypedRows.lookup "slices.overlaps"=some Extern.SlicesOverlaps.overlaps:=by kernel_rfl
theorem qQL {fn:Func} (h:qvN fn.name=true) (ho:fn.origin="slices.overlaps"):fn.name ≠ "runtime.NumGoroutine" ∧ Extern.findNext fn=none∧Extern.find fn=some (Extern.SlicesOverlaps.overlaps fn.params fn.resultTypes):=by
 simp only [qvN,Bool.or_eq_true,beq_iff_eq] at h
 rcases h with (h | h) | h
 ·exact ⟨by rw [h];decide,by simp [Extern.findNext,Extern.find,h,ho,qZx,qZj,qZz,qZq,qqj,qqz,qqq]⟩
 ·exact ⟨by rw [h];decide,by simp [Extern.findNext,Extern.find,h,ho,qQU,qQT,qQS,qQR,qqj,qqz,qqq]⟩
 ·exact ⟨by rw [h];decide,by simp [Extern.findNext,Extern.find,h,ho,qQP,qQO,qQN,qQM,qqj,qqz,qqq]⟩
def qzu (P:Program) (fn:Func):Option Nat:=match (fn.params[0]?).bind P.underlying with
 | some (.slice e)=>(P.info? e).map (·.size)
 | _=>none
def TN (P:Program) (f:Operand) (xs:List Operand):Option (RO×List Operand) :=
 match f with
 | .func f=>(P.funcs[f]?).bind fun fn=>if fn.body.isSome && fn.name != "runtime.NumGoroutine" then some (.call f,xs) else if fn.body.isNone && fn.name == "internal/bytealg.IndexByteString" && fn.origin == "" then some (.ixb,xs) else if fn.body.isNone && qvN fn.name && fn.origin == "slices.overlaps" then (qzu P fn).map fun s=>(.ovl s,xs) else none
 | .tmp t=>some (.callv,.tmp t::xs)
 | _=>none
def pj (P:Program) (c:Call) (xs:List Operand):Option (RO×List Operand) :=
 match c.callee with
 | .value f=>TN P f xs
 | .builtin b=>ma P b c.argTypes xs
 | .invoke _ _=>none
def qkN (P:Program) (op:UnOp) (t:TypeId) (x:Operand):Option (RO×List Operand) :=
 match op with
 | .not=>some (.not,[x])
 | .neg=>if (match P.underlying t with | some (.int _)=>true | _=>false) then some (.neg,[x]) else none
 | .xor=>if (match P.underlying t with | some (.int _)=>true | _=>false) then some (.cpl,[x]) else none
 | _=>none
def qkP (P:Program) (o:Oper):Option (RO×List Operand) :=
 match o.op with
 | .move x | .assign x=>some (.mv,[x])
 | .pick c a b=>some (.pick,[c,a,b])
 | .nilCheck x=>some (.nilck,[x])
 | .fieldAddr s x f =>
  match P.underlying s with
  | some (.struct fields)=>(fields[f]?).bind fun fl=>(P.info? fl.type).bind fun i=>if i.size=0 then none else some (.fld fl.offset,[x])
  | _=>none
 | .indexAddr t x i =>
  match P.underlying t with
  | some (.slice e)=>(P.info? e).map fun j=>(.ixs j.size,[x,i])
  | some (.array n e)=>(P.info? e).map fun j=>(.ixa n j.size,[x,i])
  | _=>none
 | .load t x=>if QP P t then some (.ld,[x]) else if Qh P t then (P.info? t).map fun i=>(.lda i.size,[x]) else none
 | .store t x v=>(P.info? t).map fun i=>(.st i.size,[x,v])
 | .alloc t=>(zeroOf P t).map fun z=>(.alc z.1.cells.toList t,[])
 | .box t v=>some (.box t,[v])
 | .binOp op t x y _=>Cm P op t x y
 | .makeInterface t x=>if qQp P t || (P.underlying t).isNone then none else some (.mki t,[x])
 | .unOp op t x=>qkN P op t x
 | .convert s d x =>
  match P.underlying s,P.underlying d with
  | some (.int _),some (.int k)=>some (.conv k,[x])
  | some .string,some .string=>some (.zid,[x])
  | some (.slice e),some .string=>if P.underlying e matches some (.int .u8) then some (.b2s,[x]) else none
  | some .string,some (.slice e)=>if P.underlying e matches some (.int .u8) then some (.s2b e,[x]) else none
  | some (.slice _),some (.slice e)=>if s == d && u8T P e then some (.mrk,[x]) else none
  | _,_=>none
 | .field t x f =>
  match P.underlying t with
  | some (.struct fields)=>(fields[f]?).bind fun fl=>if QP P fl.type then some (.prt fl.offset,[x]) else if Qh P fl.type then (P.info? fl.type).map fun i=>(.prta fl.offset i.size,[x]) else none
  | _=>none
 | .extract x i=>some (.ext i,[x])
 | .makeSlice t l c =>
  match P.underlying t with
  | some (.slice e)=>(P.info? e).bind fun i=>(i.zero).bind fun z=>if z.cells.size=i.size∧0 < i.size then some (.mks e i.bytes z.cells.toList,[l,c]) else none
  | _=>none
 | .slice t x lo hi mx=>if mx.isNone then pq P t x lo hi else fR P t x lo hi mx
 | .index t x i =>
  match P.underlying t with
  | some (.array n e)=>if QP P e then (P.info? e).map fun j=>(.idx n j.size,[x,i]) else if Qh P e then (P.info? e).map fun j=>(.idxa n j.size,[x,i]) else none
  | some .string=>some (.idxs,[x,i])
  | _=>none
 | .makeFunc fn first captured=>some (.mkf fn first.size,first.toList++captured.toList)
 | .makeMap t r=>if r.isNone then some (.mkm,[]) else none
 | .lookup t x i ok=>fS P t x i ok
 | .mapUpdate t m k x | .insert t m k x=>(mY P t).map fun z=>(.mup z.1 z.2.1,[m,k,x])
 | .range t x=>match P.underlying t with | some (.map _ _)=>some (.rng,[x]) | _=>none
 | .next it isString=>if isString then none else some (.nxt,[it])
 | .entry it=>some (.ent,[it])
 | .build t parts=>px P t parts.toList
 | .buildSlice t len parts=>ae P t len parts.toList
 | .call c=>pj P c c.args.toList
 | _=>none
def qz (P:Program) (o:Oper):Option (RO×List Operand):=some ((qkP P o).getD (.bad,[]))
theorem IH {P:Program} {o:Oper} {r:RO×List Operand} (h:qz P o=some r):qkP P o=some r∨r=(.bad,[]):=by
 unfold qz at h
 cases h0:qkP P o with
 | none=>rw [h0] at h;exact .inr (by simpa using h.symm)
 | some x=>rw [h0] at h;exact .inl (by simpa using h)
section sound
variable {P:Program} {ro:RO} {xl:List Operand} {m:Mem} {w:World} {ρ:Operand→Value}
theorem ab {a:Addr} {v:Value} (hw:qO w=m) (h:cell m a=some v):(load a).run P w=.ok v w:=by
 subst hw;rw [Tk] at h;simp [h]
theorem run_loadCellsFrom (hw:qO w=m) (a:Addr):∀ (n i:Nat) (acc:Array Value) (l:List Value),jN m a i n=some l →
  (loadCellsFrom a i n acc).run P w=.ok (acc++l.toArray) w
 | 0,i,acc,l,h=>by simp only [jN,Option.some.injEq] at h;subst h;simp [loadCellsFrom]
 | n+1,i,acc,l,h=>by
  simp only [jN,Option.bind_eq_some_iff,Option.map_eq_some_iff] at h
  obtain ⟨v,hv,r,hr,rfl⟩:=h
  simp only [loadCellsFrom,Sem.run_bind,ab hw hv,Result.andThen_ok,run_loadCellsFrom hw a n (i+1) _ r hr]
  simp
theorem TA:∀ (off:Nat) (vs cs:List Value),spl off vs cs=if off+vs.length≤cs.length then some (cs.take off++vs++cs.drop (off+vs.length)) else none
 | 0,[],cs=>by simp [spl]
 | 0,v::vs,[]=>by simp [spl]
 | 0,v::vs,c::cs=>by
  simp only [spl,TA 0 vs cs,Nat.zero_add,List.length_cons,Nat.add_le_add_iff_right]
  split<;>simp
 | n+1,vs,[]=>by simp only [spl,List.length_nil];rw [if_neg (by omega)]
 | n+1,vs,c::cs=>by
  simp only [spl,TA n vs cs,List.length_cons]
  by_cases h:n+vs.length≤cs.length
  ·rw [if_pos h,if_pos (by omega)]
   simp [show n+1+vs.length=(n+vs.length)+1 from by omega]
  ·rw [if_neg h,if_neg (by omega)];rfl
theorem LY (off:Nat):∀ (vs:List Value) (j:Nat) (cs:Array Value),off+j+vs.length≤cs.size →
  ((vs.zipIdx j).foldl (fun cs (c,j)=>cs.setIfInBounds (off+j) c) cs).toList=cs.toList.take (off+j)++vs++cs.toList.drop (off+j+vs.length)
 | [],j,cs,h=>by simp
 | v::vs,j,cs,h=>by
  simp only [List.length_cons] at h
  simp only [List.zipIdx_cons,List.foldl_cons]
  have ih:=LY off vs (j+1) (cs.setIfInBounds (off+j) v) (by simp;omega)
  rw [ih]
  have hlt:off+j < cs.toList.length:=by simp;omega
  simp only [Array.toList_setIfInBounds]
  rw [List.take_set,List.drop_set_of_lt (by omega),show off+(j+1)=off+j+1 from by omega,List.take_succ_eq_append_getElem (by simpa using hlt)]
  rw [List.set_append_right _ _ (by simp;omega)]
  simp only [List.length_take,Nat.min_eq_left (Nat.le_of_lt hlt),Nat.sub_self,List.set_cons_zero,List.append_assoc,List.cons_append,List.nil_append,List.length_cons]
  rw [show off+j+1+vs.length=off+j+(vs.length+1) from by omega]
theorem rG (place:Nat→Option (Nat×Nat)):∀ (parts:List (Nat×Value)) (ps:List (Nat×Nat)) (cells:Array Value) (l:List Value),
  (parts.map fun p=>place p.1)=ps.map some→lay cells.toList ps (parts.map (·.2))=some l→Instr.fill place cells parts=some l.toArray
 | [],ps,cells,l,hp,h=>by
  cases ps with
  | nil=>simp only [lay,List.map_nil,Option.some.injEq] at h;subst h;simp [Instr.fill]
  | cons p r=>simp at hp
 | (i,v)::r,ps,cells,l,hp,h=>by
  cases ps with
  | nil=>simp at hp
  | cons p ps =>
   obtain ⟨off,size⟩:=p
   simp only [List.map_cons,List.cons.injEq] at hp
   simp only [List.map_cons,lay] at h
   split at h
   case isFalse=>cases h
   rename_i hsz
   rw [qkJ,Array.length_toList] at hsz
   obtain ⟨cs,hcs,hl⟩:=Option.bind_eq_some_iff.1 h
   rw [TA,qkJ] at hcs
   split at hcs
   case isFalse=>cases hcs
   rename_i hle
   simp only [Option.some.injEq] at hcs
   simp only [Array.length_toList] at hle
   simp only [Instr.fill,hp.1]
   rw [if_neg (by simp [hsz];omega)]
   have h1:=LY off v.cells.toList 0 cells (by simpa using hle)
   have h2:(v.cells.zipIdx.foldl (fun cs (c,j)=>cs.setIfInBounds (off+j) c) cells)=cs.toArray:=by
    apply Array.ext'
    rw [← hcs,← Array.foldl_toList]
    simpa using h1
   rw [h2]
   exact rG place r ps cs.toArray l hp.2 hl
theorem qJ {α β:Type} {a c:α} {b d:β} (h:some (a,b)=some (c,d)):a=c∧b=d:=by simpa using h
theorem qKj {f:IntKind→Int→Int→Option Value} {x y v:Value} (h:i2 f x y=some v):∃ k a b,x=.int k a∧y=.int k b∧f k a b=some v:=by
 cases x<;>cases y<;>simp only [i2,reduceCtorEq] at h
 split at h
 ·rename_i e;subst e;exact ⟨_,_,_,rfl,rfl,h⟩
 ·cases h
theorem uX {f:IntKind→Int→Int→Option Value} {x y v:Value} (h:j2 f x y=some v):∃ k k' a b,x=.int k a∧y=.int k' b∧f k a b=some v:=by
 cases x<;>cases y<;>simp only [j2,reduceCtorEq] at h
 exact ⟨_,_,_,_,rfl,rfl,h⟩
theorem Zb {f:IntKind→Int→Option Value} {x v:Value} (h:i1 f x=some v):∃ k a,x=.int k a∧f k a=some v:=by
 cases x<;>simp only [i1,reduceCtorEq] at h
 exact ⟨_,_,rfl,h⟩
theorem qKB {f:Bool→Bool→Option Value} {x y v:Value} (h:b2 f x y=some v):∃ a b,x=.bool a∧y=.bool b∧f a b=some v:=by
 cases x<;>cases y<;>simp only [b2,reduceCtorEq] at h
 exact ⟨_,_,rfl,rfl,h⟩
theorem qwA {f:Bool→Option Value} {x v:Value} (h:b1 f x=some v):∃ a,x=.bool a∧f a=some v:=by
 cases x<;>simp only [b1,reduceCtorEq] at h
 exact ⟨_,rfl,h⟩
theorem cj {f:Addr→Option Value} {x v:Value} (h:p1 f x=some v):∃ a,x=.pointer (some a)∧f a=some v:=by
 unfold p1 at h
 split at h
 ·exact ⟨_,rfl,h⟩
 ·cases h
theorem ua {f:Array Value→Option Value} {x v:Value} (h:g1 f x=some v):∃ a,x=.agg a∧f a=some v:=by
 cases x<;>simp only [g1,reduceCtorEq] at h
 exact ⟨_,rfl,h⟩
theorem qJs {f:Array Value→Option Value} {x v:Value} (h:t1 f x=some v):∃ a,x=.tuple a∧f a=some v:=by
 cases x<;>simp only [t1,reduceCtorEq] at h
 exact ⟨_,rfl,h⟩
theorem tc {f:Option Addr→Nat→Nat→Option Value} {x v:Value} (h:s1 f x=some v):∃ a n c,x=.slice a n c∧f a n c=some v:=by
 cases x<;>simp only [s1,reduceCtorEq] at h
 exact ⟨_,_,_,rfl,h⟩
theorem LG {f:ByteArray→Option Value} {x v:Value} (h:z1 f x=some v):∃ a,x=.string a∧f a=some v:=by
 cases x<;>simp only [z1,reduceCtorEq] at h
 exact ⟨_,rfl,h⟩
theorem qzP {ng:Bool} {x y v:Value} (h:eqp ng x y=some v):∃ a,x=.pointer a∧y=.pointer none∧v=.bool (if ng then a.isSome else a.isNone):=by
 unfold eqp at h
 split at h
 ·exact ⟨_,rfl,rfl,by simpa using h.symm⟩
 ·cases h
theorem cq {m:Mem} {b:Nat} (h:cz m b=true):∃ c t,m b=some (.cells c t (0,0)):=by
 unfold cz at h
 split at h
 ·exact ⟨_,_,by assumption⟩
 ·cases h
theorem rI {t e:TypeId} {i:TypeInfo} (ht:P.underlying t=some (.pointer e)) (hi:P.info? e=some i) (hz:i.size≠0) (d:Nat) {a b:Addr} {r:Bool} (h:(sameAddr a b).run P w=.ok r w):(Op.equalIn (d+1) t (.pointer (some a)) (.pointer (some b))).run P w=.ok r w:=by
 simp [Op.equalIn,qk ht,qn hi,hz,h]
theorem Nc {t e:TypeId} (ht:P.underlying t=some (.pointer e)) (d:Nat) (b:Addr):(Op.equalIn (d+1) t (.pointer none) (.pointer (some b))).run P w=.ok false w:=by
 simp [Op.equalIn,qk ht]
theorem qZZ {ng:Bool} {x y v:Value} (h:eqQ (qO w) ng x y=some v) {t e:TypeId} {i:TypeInfo} (ht:P.underlying t=some (.pointer e)) (hi:P.info? e=some i) (hz:i.size≠0) (d:Nat) :
  ∃ r,(Op.equalIn (d+1) t x y).run P w=.ok r w∧v=.bool (if ng then !r else r)∧∃ a b,x=.pointer a∧y=.pointer b:=by
 unfold eqQ at h
 split at h
 ·rename_i a
  simp only [Option.some.injEq] at h;subst h
  exact ⟨a.isNone,by cases a<;>simp [Op.equalIn,qk ht],by cases ng<;>cases a<;>rfl,_,_,rfl,rfl⟩
 ·rename_i b
  simp only [Option.some.injEq] at h;subst h
  exact ⟨false,Nc ht d b,by cases ng<;>rfl,_,_,rfl,rfl⟩
 ·rename_i a b
  split at h
  ·rename_i hb
   simp only [Option.some.injEq] at h;subst h
   exact ⟨a == b,rI ht hi hz d (by simp [sameAddr,hb]),rfl,_,_,rfl,rfl⟩
  ·rename_i hb
   split at h
   ·rename_i hp
    simp only [Bool.and_eq_true] at hp
    obtain ⟨ca,ta,ha⟩:=cq hp.1
    obtain ⟨cb,tb,hb'⟩:=cq hp.2
    simp only [Option.some.injEq] at h;subst h
    exact ⟨false,rI ht hi hz d (run_sameAddr_other w (fun e=>hb (by rw [e])) ha hb'),by cases ng<;>rfl,_,_,rfl,rfl⟩
   ·cases h
 ·cases h
theorem EJ (ps rs:Array TypeId) (a b:Option Addr) (la ca lb cb:Nat):Extern.SlicesOverlaps.overlaps ps rs #[.slice a la ca,.slice b lb cb]=(do
  let some t:=ps[0]? | stuck "slices.overlaps: no parameter types"
  let .slice elem ← underlying t | stuck "slices.overlaps: slice type expected"
  let size ← sizeOf elem
  match a,b with
  | some a,some b =>
   if la=0∨lb=0∨size=0 then pure (.bool false)
   else if a.block != b.block && (← frozen a) && (← frozen b) then unsupported .addressObserved
   else do
    if a.block != b.block then do
     noView a;noView b
     if ← mayBeOne a b then return .bool ((← choose (.extern "sameAddr.stringBytes" 2)) == 1)
    pure (.bool (a.block == b.block && a.off < b.off+lb*size && b.off < a.off+la*size))
  | _,_=>pure (.bool false)):=rfl
theorem qQZ {s:Nat} {x y v:Value} (h:ovQ (qO w) s x y=some v) {ps rs:Array TypeId} {t e:TypeId} {i:TypeInfo} (h0:ps[0]?=some t) (ht:P.underlying t=some (.slice e)) (hi:P.info? e=some i) (hz:i.size=s) :
  (Extern.SlicesOverlaps.overlaps ps rs #[x,y]).run P w=.ok v w:=by
 unfold ovQ at h
 split at h
 ·rename_i a la ca b lb cb
  split at h
  ·rename_i h1
   simp only [Option.some.injEq] at h;subst h
   simp [EJ,h0,qk ht,qn hi,hz,h1]
  ·rename_i h1
   split at h
   ·rename_i hb
    simp only [Option.some.injEq] at h;subst h
    simp [EJ,h0,qk ht,qn hi,hz,h1,hb]
   ·rename_i hb
    split at h
    ·rename_i hp
     simp only [Bool.and_eq_true] at hp
     obtain ⟨ca,ta,ha⟩:=cq hp.1
     obtain ⟨cb,tb,hb'⟩:=cq hp.2
     simp only [Option.some.injEq] at h;subst h
     have ha:w.heap[a.block]?=some (.cells ca ta (0,0)):=ha
     have hb':w.heap[b.block]?=some (.cells cb tb (0,0)):=hb'
     simp [EJ,h0,qk ht,qn hi,hz,h1,hb,frozen,Sem.run,World.frozen?,World.shape?,ha,hb',noView,viewAt,mayBeOne,stringish,shape]
    ·cases h
 ·simp only [Option.some.injEq] at h;subst h
  simp [EJ,h0,qk ht,qn hi,hz]
 ·simp only [Option.some.injEq] at h;subst h
  simp [EJ,h0,qk ht,qn hi,hz]
 ·cases h
theorem qZy {ng:Bool} {x y v:Value} (h:eqs ng x y=some v):∃ a n c n' c',x=.slice a n c∧y=.slice none n' c'∧v=.bool (if ng then a.isSome else a.isNone):=by
 unfold eqs at h
 split at h
 ·exact ⟨_,_,_,_,_,rfl,rfl,by simpa using h.symm⟩
 ·cases h
theorem qZQ {ng:Bool} {x y v:Value} (h:eqm ng x y=some v):∃ a,x=.map a∧y=.map none∧v=.bool (if ng then a.isSome else a.isNone):=by
 unfold eqm at h
 split at h
 ·exact ⟨_,rfl,rfl,by simpa using h.symm⟩
 ·cases h
theorem qJZ {f:ByteArray→ByteArray→Option Value} {x y v:Value} (h:z2 f x y=some v):∃ a b,x=.string a∧y=.string b∧f a b=some v:=by
 cases x<;>cases y<;>simp only [z2,reduceCtorEq] at h
 exact ⟨_,_,rfl,rfl,h⟩
theorem Ra {t k e:TypeId} (ht:P.underlying t=some (.map k e)) (d:Nat) (a:Option Nat):(Op.equalIn (d+1) t (.map a) (.map none)).run P w=.ok a.isNone w:=by
 cases a<;>simp [Op.equalIn,qk ht]
theorem Nf {t:TypeId} (ht:P.underlying t=some .bool) (d:Nat) (a b:Bool):(Op.equalIn (d+1) t (.bool a) (.bool b)).run P w=.ok (a == b) w:=by
 simp [Op.equalIn,qk ht]
theorem AD {t e:TypeId} (ht:P.underlying t=some (.pointer e)) (d:Nat) (a:Option Addr):(Op.equalIn (d+1) t (.pointer a) (.pointer none)).run P w=.ok a.isNone w:=by
 cases a<;>simp [Op.equalIn,qk ht]
theorem Ij {t e:TypeId} (ht:P.underlying t=some (.slice e)) (d:Nat) (a:Option Addr) (n c n' c':Nat):(Op.equalIn (d+1) t (.slice a n c) (.slice none n' c')).run P w=.ok a.isNone w:=by
 cases a<;>simp [Op.equalIn,qk ht]
theorem kK {t:TypeId} {x y:Value}:Op.equal t x y=Op.equalIn (9999+1) t x y:=rfl
theorem qxN (hwm:qO w=m) {op:BinOp} {t:TypeId} {x y:Operand} (h:My P op t x y=some (ro,xl)) {v:Value} (hr:rd ro (xl.map ρ) m=some v) :
    (do eqGuard op t x y (ρ x) (ρ y);binOp op t (ρ x) (ρ y):Sem Value).run P w=.ok v w:=by
  have agg:∀ (ng:Bool) (op:BinOp) (ks:List LK),(op=if ng then .neq else .eql)→Qh P t=true→qS P 10000 t=some ks→P.eqGuardType P.depth t=false→rd (.eqc ng ks) [ρ x,ρ y] m=some v →
      (do eqGuard op t x y (ρ x) (ρ y);binOp op t (ρ x) (ρ y):Sem Value).run P w=.ok v w:=by
    intro ng op ks hop ha hl hg hr
    obtain ⟨xs,hx,hr⟩:=ua hr
    obtain ⟨ys,hy,hr⟩:=ua hr
    obtain ⟨b,hb,rfl⟩:=Option.map_eq_some_iff.1 hr
    rw [hx,hy]
    have h1:=qzR 10000 t ks hl w (.agg xs) (.agg ys) b (fun _=>⟨_,_,rfl,rfl⟩) (fun hp=>by
      rcases vP hl with ⟨_,ha',_⟩ | ⟨hp',_⟩
      · rw [ha] at ha';cases ha'
      · rw [hp] at hp';cases hp') hb
    subst hop
    cases ng
    · simp only [Bool.false_eq_true,if_false,Sem.run_bind,run_eqGuard_agg w .eql t x y xs ys hg,Result.andThen_ok,run_eql_struct,h1]
    · simp only [if_true,Sem.run_bind,run_eqGuard_agg w .neq t x y xs ys hg,Result.andThen_ok,run_neq_struct,h1]
  have ptr:∀ (ng:Bool) (op:BinOp) (e:TypeId),(op=if ng then .neq else .eql)→P.underlying t=some (.pointer e)→Dd P ng e x y=some (ro,xl) →
      (do eqGuard op t x y (ρ x) (ρ y);binOp op t (ρ x) (ρ y):Sem Value).run P w=.ok v w:=by
    intro ng op e hop hu h
    unfold Dd at h
    split at h
    · obtain ⟨rfl,rfl⟩:=qJ h
      simp only [List.map_cons,List.map_nil,rd,rdp,RO.reads] at hr
      obtain ⟨a,hx,hy,rfl⟩:=qzP hr
      rw [hx,hy]
      subst hop
      cases ng<;>cases a<;>simp [eqGuard,binOp,kK,AD (P:=P) hu]
    · split at h
      · rename_i i hi
        split at h
        · cases h
        · rename_i hz
          obtain ⟨rfl,rfl⟩:=qJ h
          have hr:eqQ m ng (ρ x) (ρ y)=some v:=hr
          rw [← hwm] at hr
          obtain ⟨r,h1,rfl,a,b,hx,hy⟩:=qZZ hr hu hi hz 9999
          rw [hx,hy] at h1 ⊢
          subst hop
          cases ng<;>simp [eqGuard,binOp,kK,h1]
      · cases h
  unfold My at h
  split at h<;>first
    | (cases h;done)
    | (rename_i hu;exact ptr _ _ _ rfl hu h)
    | (rename_i hu
       split at h
       · cases h
       · rename_i hg
         obtain ⟨ks,hl,h⟩:=Option.map_eq_some_iff.1 h
         obtain ⟨rfl,rfl⟩:=Prod.mk.injEq ..▸h
         exact agg _ _ ks rfl (by simp [Qh,hu]) hl (by simpa using hg) hr)
    | (obtain ⟨rfl,rfl⟩:=qJ h)
  all_goals simp only [List.map_cons,List.map_nil,rd,rdp,RO.reads] at hr
  all_goals generalize ρ x=a at *
  all_goals generalize ρ y=b at *
  all_goals first
    | (obtain ⟨k,i,j,rfl,rfl,e⟩:=qKj hr
       first
         | (simp only [Option.some.injEq] at e;subst e;simp [eqGuard,binOp,Op.intArith,Op.intBits,Op.intCmp];done)
         | (split at e
            · cases e
            · rename_i hz
              simp only [Option.some.injEq] at e;subst e;simp [eqGuard,binOp,Op.intDiv,hz];done))
    | (obtain ⟨k,k',i,j,rfl,rfl,e⟩:=uX hr
       split at e
       · cases e
       · rename_i hz
         simp only [Option.some.injEq] at e;subst e;simp [eqGuard,binOp,Op.shift,hz];done)
    | (obtain ⟨i,j,rfl,rfl,e⟩:=qKB hr
       simp only [Option.some.injEq] at e;subst e
       cases i<;>cases j<;>simp [eqGuard,binOp,kK,Nf (P:=P) (by assumption)]<;>done)
    | (obtain ⟨a,rfl,rfl,rfl⟩:=qzP hr
       cases a<;>simp [eqGuard,binOp,kK,AD (P:=P) (by assumption)]<;>done)
    | (obtain ⟨a,n,c,n',c',rfl,rfl,rfl⟩:=qZy hr
       cases a<;>simp [eqGuard,binOp,kK,Ij (P:=P) (by assumption)]<;>done)
    | (obtain ⟨a,rfl,rfl,rfl⟩:=qZQ hr
       cases a<;>simp [eqGuard,binOp,kK,Ra (P:=P) (by assumption)]<;>done)
    | (obtain ⟨a,b,rfl,rfl,e⟩:=qJZ hr
       first
         | (simp only [Option.some.injEq] at e;subst e;simp [eqGuard,binOp,Op.stringOp,ByteArray.toList_eq];done)
         | (split at e
            · rename_i hle
              simp only [Option.some.injEq] at e;subst e
              have h63:¬ (((a.size+b.size:Nat):Int) > IntKind.i64.max):=by
                simp only [IntKind.max,IntKind.bits,IntKind.signed];simp;omega
              have h1:(Op.stringOp .add a b).run P w=.ok (.string (a++b)) w:=by
                unfold Op.stringOp;simp only [if_neg h63];rfl
              simp [eqGuard,binOp,h1]
            · cases e))
theorem AF {t:TypeId} {l:Array (String×TypeId)} (ht:P.underlying t=some (.interface l)) (d:Nat):(Op.equalIn (d+1) t .nilIface .nilIface).run P w=.ok true w:=by
 simp [Op.equalIn,qk ht]
theorem AE {t:TypeId} {l:Array (String×TypeId)} (ht:P.underlying t=some (.interface l)) (d:Nat) (u:TypeId) (x:Value):(Op.equalIn (d+1) t (.iface u x) .nilIface).run P w=.ok false w:=by
 simp [Op.equalIn,qk ht]
theorem qqL (hwm:qO w=m) {op:BinOp} {t:TypeId} {x y:Operand} (h:Cm P op t x y=some (ro,xl)) {v:Value} (hr:rd ro (xl.map ρ) m=some v) :
  (do eqGuard op t x y (ρ x) (ρ y);binOp op t (ρ x) (ρ y):Sem Value).run P w=.ok v w:=by
 unfold Cm at h
 split at h
 ·rename_i hif
  have hu:∃ l,P.underlying t=some (.interface l):=by
   unfold qQp at hif
   split at hif
   ·exact ⟨_,by assumption⟩
   ·cases hif
  obtain ⟨l,hu⟩:=hu
  unfold qkO at h
  split at h
  case h_2=>cases h
  split at h
  ·obtain ⟨rfl,rfl⟩:=qJ h
   have hr:eqI false (ρ x) (ρ (.const .nilIface))=some v:=hr
   obtain ⟨hy,⟨hx,rfl⟩ | ⟨⟨u,z,hx⟩,rfl⟩⟩:=qzS hr
   ·rw [hx,hy];simp [eqGuard,binOp,kK,AF (P:=P) hu]
   ·rw [hx,hy];simp [eqGuard,binOp,kK,AE (P:=P) hu]
  ·obtain ⟨rfl,rfl⟩:=qJ h
   have hr:eqI true (ρ x) (ρ (.const .nilIface))=some v:=hr
   obtain ⟨hy,⟨hx,rfl⟩ | ⟨⟨u,z,hx⟩,rfl⟩⟩:=qzS hr
   ·rw [hx,hy];simp [eqGuard,binOp,kK,AF (P:=P) hu]
   ·rw [hx,hy];simp [eqGuard,binOp,kK,AE (P:=P) hu]
  ·cases h
 ·exact qxN hwm h hr
theorem run_sliceBound {y:Nat} {c:BoundsCode} {k:IntKind} {i:Int} (h0:0≤i) (h1:i≤y):(Instr.sliceBound (.int k i) y c).run P w=.ok i.toNat w:=by
 simp [Instr.sliceBound,asIntOf,h0,h1]
theorem rO {size:Nat} {a:Option Addr} {cap:Nat} {lo hi:Int} {v:Value} (h:xy size a cap lo hi=some v) :
  0≤lo∧lo≤hi∧hi≤cap∧v=.slice (if cap=lo.toNat then a else a.map (·.add (lo.toNat*size))) (hi.toNat - lo.toNat) (cap - lo.toNat):=by
 unfold xy at h
 split at h
 ·rename_i e;exact ⟨e.1,e.2.1,e.2.2,by simpa using h.symm⟩
 ·cases h
theorem rP {size:Nat} {a:Addr} {cap:Nat} {lo hi:Int} {v:Value} (h:qxt size a cap lo hi=some v) :
  0≤lo∧lo≤hi∧hi≤cap∧v=.slice (some (if cap=lo.toNat then a else a.add (lo.toNat*size))) (hi.toNat - lo.toNat) (cap - lo.toNat):=by
 unfold qxt at h
 split at h
 ·rename_i e;exact ⟨e.1,e.2.1,e.2.2,by simpa using h.symm⟩
 ·cases h
theorem RL {size:Nat} {a:Option Addr} {cap:Nat} {lo hi mx:Int} {v:Value} (h:qZe size a cap lo hi mx=some v) :
  0≤lo∧lo≤hi∧hi≤mx∧mx≤cap∧v=.slice (if mx.toNat=lo.toNat then a else a.map (·.add (lo.toNat*size))) (hi.toNat - lo.toNat) (mx.toNat - lo.toNat):=by
 unfold qZe at h
 split at h
 ·rename_i e;exact ⟨e.1,e.2.1,e.2.2.1,e.2.2.2,by simpa using h.symm⟩
 ·cases h
theorem rN {s:ByteArray} {lo hi:Int} {v:Value} (h:qxs s lo hi=some v):0≤lo∧lo≤hi∧hi≤s.size∧v=.string (s.extract lo.toNat hi.toNat):=by
 unfold qxs cutB at h
 split at h
 ·rename_i e;exact ⟨e.1,e.2.1,e.2.2,by simpa using h.symm⟩
 ·cases h
theorem OU {t:TypeId} {x:Operand} {lo hi:Option Operand} (h:pq P t x lo hi=some (ro,xl)) {v:Value} (hr:rd ro (xl.map ρ) m=some v) :
  (Instr.sliceAt t (ρ x) (lo.map ρ) (hi.map ρ) none).run P w=.ok v w:=by
 unfold pq at h
 split at h
 ·rename_i e hu
  obtain ⟨i,hi',h⟩:=Option.map_eq_some_iff.1 h
  obtain ⟨rfl,rfl⟩:=Prod.mk.injEq ..▸h
  have hz:=qn (P:=P) (w:=w) hi'
  cases lo<;>cases hi<;>simp only [Option.isSome,Option.toList_none,Option.toList_some,List.append_nil,List.cons_append,List.nil_append,List.map_cons,List.map_nil,rd,rdp,RO.reads] at hr
  all_goals obtain ⟨a,n,c,hx,e⟩:=tc hr
  ·obtain ⟨h0,h1,h2,rfl⟩:=rO e
   have h2':n≤c:=by omega
   simp [Instr.sliceAt,Instr.slice,qk hu,hx,Instr.sliceBounds,hz]
  ·obtain ⟨k,hi,hy,e⟩:=Zb e
   obtain ⟨h0,h1,h2,rfl⟩:=rO e
   simp [Instr.sliceAt,Instr.slice,qk hu,hx,hy,Instr.sliceBounds,run_sliceBound h1 h2,hz]
  ·obtain ⟨k,lo,hy,e⟩:=Zb e
   obtain ⟨h0,h1,h2,rfl⟩:=rO e
   simp [Instr.sliceAt,Instr.slice,qk hu,hx,hy,Instr.sliceBounds,run_sliceBound h0 h1,hz]
  ·obtain ⟨k,k',lo,hi,hy,hy',e⟩:=uX e
   obtain ⟨h0,h1,h2,rfl⟩:=rO e
   have h3:lo≤(hi.toNat:Int):=by omega
   simp [Instr.sliceAt,Instr.slice,qk hu,hx,hy,hy',Instr.sliceBounds,run_sliceBound h0 h3,run_sliceBound (Int.le_trans h0 h1) h2,hz]
 ·rename_i hu
  obtain ⟨rfl,rfl⟩:=qJ h
  cases lo<;>cases hi<;>simp only [Option.isSome,Option.toList_none,Option.toList_some,List.append_nil,List.cons_append,List.nil_append,List.map_cons,List.map_nil,rd,rdp,RO.reads] at hr
  all_goals obtain ⟨s,hx,e⟩:=LG hr
  ·obtain ⟨h0,h1,h2,rfl⟩:=rN e
   simp [Instr.sliceAt,Instr.slice,qk hu,hx,Instr.sliceBounds]
  ·obtain ⟨k,hi,hy,e⟩:=Zb e
   obtain ⟨h0,h1,h2,rfl⟩:=rN e
   simp [Instr.sliceAt,Instr.slice,qk hu,hx,hy,Instr.sliceBounds,run_sliceBound h1 h2]
  ·obtain ⟨k,lo,hy,e⟩:=Zb e
   obtain ⟨h0,h1,h2,rfl⟩:=rN e
   simp [Instr.sliceAt,Instr.slice,qk hu,hx,hy,Instr.sliceBounds,run_sliceBound h0 h1]
  ·obtain ⟨k,k',lo,hi,hy,hy',e⟩:=uX e
   obtain ⟨h0,h1,h2,rfl⟩:=rN e
   have h3:lo≤(hi.toNat:Int):=by omega
   simp [Instr.sliceAt,Instr.slice,qk hu,hx,hy,hy',Instr.sliceBounds,run_sliceBound h0 h3,run_sliceBound (Int.le_trans h0 h1) h2]
 ·rename_i arr hu
  split at h
  case h_2=>cases h
  rename_i n0 e hu2
  obtain ⟨i,hi',h⟩:=Option.map_eq_some_iff.1 h
  obtain ⟨rfl,rfl⟩:=Prod.mk.injEq ..▸h
  have hz:=qn (P:=P) (w:=w) hi'
  cases lo<;>cases hi<;>simp only [Option.isSome,Option.toList_none,Option.toList_some,List.append_nil,List.cons_append,List.nil_append,List.map_cons,List.map_nil,rd,rdp,RO.reads] at hr
  all_goals obtain ⟨a,hx,e⟩:=cj hr
  ·obtain ⟨h0,h1,h2,rfl⟩:=rP e
   simp [Instr.sliceAt,Instr.slice,qk hu,qk hu2,hx,Instr.sliceBounds,hz,asAddr,Instr.sureAddr]
  ·obtain ⟨k,hi,hy,e⟩:=Zb e
   obtain ⟨h0,h1,h2,rfl⟩:=rP e
   simp [Instr.sliceAt,Instr.slice,qk hu,qk hu2,hx,hy,Instr.sliceBounds,run_sliceBound h1 h2,hz,asAddr,Instr.sureAddr]
  ·obtain ⟨k,lo,hy,e⟩:=Zb e
   obtain ⟨h0,h1,h2,rfl⟩:=rP e
   simp [Instr.sliceAt,Instr.slice,qk hu,qk hu2,hx,hy,Instr.sliceBounds,run_sliceBound h0 h1,hz,asAddr,Instr.sureAddr]
  ·obtain ⟨k,k',lo,hi,hy,hy',e⟩:=uX e
   obtain ⟨h0,h1,h2,rfl⟩:=rP e
   have h3:lo≤(hi.toNat:Int):=by omega
   simp [Instr.sliceAt,Instr.slice,qk hu,qk hu2,hx,hy,hy',Instr.sliceBounds,run_sliceBound h0 h3,run_sliceBound (Int.le_trans h0 h1) h2,hz,asAddr,Instr.sureAddr]
 ·cases h
theorem Mj {t:TypeId} {x:Operand} {lo hi mx:Option Operand} (h:fR P t x lo hi mx=some (ro,xl)) {v:Value} (hr:rd ro (xl.map ρ) m=some v) :
  (Instr.sliceAt t (ρ x) (lo.map ρ) (hi.map ρ) (mx.map ρ)).run P w=.ok v w:=by
 unfold fR at h
 split at h
 case h_2=>cases h
 rename_i e hi mx hu
 obtain ⟨i,hi',h⟩:=Option.map_eq_some_iff.1 h
 obtain ⟨rfl,rfl⟩:=Prod.mk.injEq ..▸h
 have hz:=qn (P:=P) (w:=w) hi'
 cases lo<;>simp only [Option.isSome,Option.toList_none,Option.toList_some,List.cons_append,List.nil_append,List.map_cons,List.map_nil,rd,rdp,RO.reads] at hr
 all_goals obtain ⟨a,n,c,hx,e⟩:=tc hr
 ·obtain ⟨k,k',hi,mx,hy,hy',e⟩:=uX e
  obtain ⟨h0,h1,h2,h3,rfl⟩:=RL e
  have h4:hi≤(mx.toNat:Int):=by omega
  simp [Instr.sliceAt,Instr.slice,qk hu,hx,hy,hy',Instr.sliceBounds,run_sliceBound (Int.le_trans h1 h2) h3,run_sliceBound h1 h4,hz]
 ·obtain ⟨k0,lo,hy0,e⟩:=Zb e
  obtain ⟨k,k',hi,mx,hy,hy',e⟩:=uX e
  obtain ⟨h0,h1,h2,h3,rfl⟩:=RL e
  have h4:hi≤(mx.toNat:Int):=by omega
  have h5:lo≤(hi.toNat:Int):=by omega
  simp [Instr.sliceAt,Instr.slice,qk hu,hx,hy,hy',hy0,Instr.sliceBounds,run_sliceBound (Int.le_trans h0 (Int.le_trans h1 h2)) h3,run_sliceBound (Int.le_trans h0 h1) h4,run_sliceBound h0 h5,hz]
end sound
end Go.Fw
namespace Go.Fw
section sound
variable {P:Program} {ro:RO} {xl:List Operand} {m:Mem} {w:World} {ρ:Operand→Value} {v:Value}
theorem run_getObj_map {r:Nat} {es:Array MapEntry} {c:Nat} (h:qO w r=some (.map es c)):(getObj r).run P w=.ok (.map es c) w:=by
 have h':w.heap[r]?=some (.map es c):=h
 simp [getObj,Sem.run,h']
theorem qxb {ats:Array TypeId} {args:List Operand} {ty:TypeId} (h:Mk P ats args=some (ro,xl)) (hr:rd ro (xl.map ρ) m=some v) (hw:qO w=m) :
  (Builtin.len_ ats ty (args.map ρ).toArray).run P w=.ok v w:=by
 unfold Mk at h
 split at h
 ·obtain ⟨rfl,rfl⟩:=qJ h
  rename_i e hu
  obtain ⟨t,ht,hu⟩:=Option.bind_eq_some_iff.1 hu
  match args,hr with
  | [x],hr =>
   obtain ⟨a,n,c,hx,e⟩:=tc hr
   simp only [Option.some.injEq] at e;subst e
   simp [Builtin.len_,ht,hx,qk hu,goInt]
  | [],hr=>simp [rd,rdp,RO.reads] at hr
  | _::_::_,hr=>simp [rd,rdp,RO.reads] at hr
 ·obtain ⟨rfl,rfl⟩:=qJ h
  rename_i hu
  obtain ⟨t,ht,hu⟩:=Option.bind_eq_some_iff.1 hu
  match args,hr with
  | [x],hr =>
   obtain ⟨s,hx,e⟩:=LG hr
   simp only [Option.some.injEq] at e;subst e
   simp [Builtin.len_,ht,hx,qk hu,goInt]
  | [],hr=>simp [rd,rdp,RO.reads] at hr
  | _::_::_,hr=>simp [rd,rdp,RO.reads] at hr
 ·obtain ⟨rfl,rfl⟩:=qJ h
  rename_i hu
  obtain ⟨t,ht,hu⟩:=Option.bind_eq_some_iff.1 hu
  match args,hr with
  | [x],hr =>
   have hr:(entriesOf m (ρ x)).map (fun es=>Value.int .i64 es.size)=some v:=hr
   obtain ⟨es,he,rfl⟩:=Option.map_eq_some_iff.1 hr
   unfold entriesOf at he
   split at he
   ·rename_i hx
    simp only [Option.some.injEq] at he;subst he
    simp [Builtin.len_,ht,hx,qk hu,goInt]
   ·rename_i r hx
    split at he
    ·rename_i es' c hr'
     simp only [Option.some.injEq] at he;subst he
     subst hw
     simp [Builtin.len_,ht,hx,qk hu,goInt,run_getObj_map hr']
    ·cases he
   ·cases he
  | [],hr=>simp [rd,rdm,RO.reads] at hr
  | _::_::_,hr=>simp [rd,rdm,RO.reads] at hr
 ·cases h
theorem qxI {ats:Array TypeId} {args:List Operand} {ty:TypeId} (h:Mw P ats args=some (ro,xl)) (hr:rd ro (xl.map ρ) m=some v) :
  (Builtin.cap_ ats ty (args.map ρ).toArray).run P w=.ok v w:=by
 unfold Mw at h
 split at h
 ·obtain ⟨rfl,rfl⟩:=qJ h
  rename_i e hu
  obtain ⟨t,ht,hu⟩:=Option.bind_eq_some_iff.1 hu
  match args,hr with
  | [x],hr =>
   obtain ⟨a,n,c,hx,e⟩:=tc hr
   simp only [Option.some.injEq] at e;subst e
   simp [Builtin.cap_,ht,hx,qk hu,goInt]
  | [],hr=>simp [rd,rdp,RO.reads] at hr
  | _::_::_,hr=>simp [rd,rdp,RO.reads] at hr
 ·cases h
theorem qQb {ats:Array TypeId} {ty:TypeId} {args:List Value} (hr:rd .mn args m=some v):(Builtin.min_ ats ty args.toArray).run P w=.ok v w:=by
 have Gn:∀ a b u,mn2 a b=some u→(Builtin.min2 a b).run P w=.ok u w:=fun a b u h=>by
  unfold mn2 at h
  split at h
  ·split at h
   ·rename_i hk
    simp only [Option.some.injEq] at h;subst h;simp [Builtin.min2]
   ·cases h
  ·simp only [Option.some.injEq] at h;subst h
   simp only [Builtin.min2,Op.stringOp,ByteArray.toList_eq,Sem.run_bind,Sem.run_pure,Result.andThen_ok,asBool]
  ·cases h
 cases args with
 | nil=>simp [rd,rdp,RO.reads] at hr
 | cons x r =>
  have hr:aR mn2 x r=some v:=hr
  show (r.foldlM Builtin.min2 x).run P w=.ok v w
  induction r generalizing x with
  | nil=>simp only [aR,Option.some.injEq] at hr;subst hr;simp
  | cons y r ih =>
   simp only [aR] at hr
   obtain ⟨u,hu,hr⟩:=Option.bind_eq_some_iff.1 hr
   simp only [List.foldlM_cons,Sem.run_bind,Gn _ _ _ hu,Result.andThen_ok]
   exact ih u hr hr
theorem qQd {ats:Array TypeId} {ty:TypeId} {args:List Value} (hr:rd .mx args m=some v):(Builtin.max_ ats ty args.toArray).run P w=.ok v w:=by
 have Gn:∀ a b u,mx2 a b=some u→(Builtin.max2 a b).run P w=.ok u w:=fun a b u h=>by
  unfold mx2 at h
  split at h
  ·split at h
   ·rename_i hk
    simp only [Option.some.injEq] at h;subst h;simp [Builtin.max2]
   ·cases h
  ·cases h
 cases args with
 | nil=>simp [rd,rdp,RO.reads] at hr
 | cons x r =>
  have hr:aR mx2 x r=some v:=hr
  show (r.foldlM Builtin.max2 x).run P w=.ok v w
  induction r generalizing x with
  | nil=>simp only [aR,Option.some.injEq] at hr;subst hr;simp
  | cons y r ih =>
   simp only [aR] at hr
   obtain ⟨u,hu,hr⟩:=Option.bind_eq_some_iff.1 hr
   simp only [List.foldlM_cons,Sem.run_bind,Gn _ _ _ hu,Result.andThen_ok]
   exact ih u hr hr
theorem qqE {o:Oper} {c:Call} (ho:o.op=.call c) (h:pj P c c.args.toList=some (ro,xl)) (hq:ro.quiet=true) (hr:rd ro (xl.map ρ) m=some v) (hw:qO w=m) (hρ:∀ f,ρ (.func f)=.func (.func f) #[] #[]) :
  (execOp ρ o).run P w=.ok (.value v) w:=by
 obtain ⟨callee,args,argTypes⟩:=c
 obtain ⟨args⟩:=args
 simp only [pj] at h
 cases callee with
 | invoke r n=>cases h
 | value f =>
  simp only [TN] at h
  cases f with
  | func f =>
   simp only at h
   obtain ⟨fn,hf,h⟩:=Option.bind_eq_some_iff.1 h
   split at h
   ·obtain ⟨rfl,rfl⟩:=qJ h;simp [RO.quiet] at hq
   ·split at h
    ·rename_i hb
     obtain ⟨rfl,rfl⟩:=qJ h
     simp only [Bool.and_eq_true,beq_iff_eq] at hb
     obtain ⟨⟨hb,hname⟩,horg⟩:=hb
     obtain ⟨h1,h2⟩:=qZk hname horg
     match args,hr with
     | [x,y],hr =>
      have hr:ixB (ρ x) (ρ y)=some v:=hr
      obtain ⟨s,c,hx,hy,rfl⟩:=qQo hr
      have:=run_callFunc_extern hf (by rw [hname];decide) hb h1 h2 #[.string s,.int .u8 c] w
      rw [run_indexByte_string] at this
      simp only [Result.andThen_ok] at this
      simp only [execOp,ho,resolve,hρ,List.map_toArray,List.map_cons,List.map_nil,Sem.run_bind,Sem.run_pure,Result.andThen_ok,Deferred.ofValue,invoke,hx,hy,Array.append_empty,Array.empty_append,this]
     | [],hr=>simp [rd,rdm,RO.reads] at hr
     | [_],hr=>simp [rd,rdm,RO.reads] at hr
     | _::_::_::_,hr=>simp [rd,rdm,RO.reads] at hr
    ·split at h
     ·rename_i hb
      obtain ⟨s,hs,h⟩:=Option.map_eq_some_iff.1 h
      obtain ⟨rfl,rfl⟩:=Prod.mk.injEq ..▸h
      simp only [Bool.and_eq_true,beq_iff_eq] at hb
      obtain ⟨⟨hb,hname⟩,horg⟩:=hb
      obtain ⟨h0n,h1,h2⟩:=qQL hname horg
      unfold qzu at hs
      split at hs
      ·rename_i e he
       obtain ⟨i,hi,hsz⟩:=Option.map_eq_some_iff.1 hs
       obtain ⟨t,h0,ht⟩:=Option.bind_eq_some_iff.1 he
       match args,hr with
       | [x,y],hr =>
        have hr:ovQ m s (ρ x) (ρ y)=some v:=hr
        rw [← hw] at hr
        have:=run_callFunc_extern hf (by simpa using h0n) hb h1 h2 #[ρ x,ρ y] w
        rw [qQZ hr h0 ht hi hsz] at this
        simp only [Result.andThen_ok] at this
        simp only [execOp,ho,resolve,hρ,List.map_toArray,List.map_cons,List.map_nil,Sem.run_bind,Sem.run_pure,Result.andThen_ok,Deferred.ofValue,invoke,Array.append_empty,Array.empty_append,this]
       | [],hr=>simp [rd,rdm,RO.reads] at hr
       | [_],hr=>simp [rd,rdm,RO.reads] at hr
       | _::_::_::_,hr=>simp [rd,rdm,RO.reads] at hr
      ·cases hs
     ·cases h
  | tmp t=>obtain ⟨rfl,rfl⟩:=qJ h;simp [RO.quiet] at hq
  | _=>cases h
 | builtin b =>
  simp only [ma] at h
  split at h
  ·have:=qxb (w:=w) (ty:=o.type) h hr hw
   simp only [execOp,ho,resolve,List.map_toArray,Sem.run_bind,Sem.run_pure,Result.andThen_ok,invoke,builtin,this]
  ·unfold MQ at h
   split at h
   ·split at h
    ·obtain ⟨i,hi,h⟩:=Option.bind_eq_some_iff.1 h
     obtain ⟨z,hz,h⟩:=Option.bind_eq_some_iff.1 h
     split at h
     ·obtain ⟨rfl,rfl⟩:=qJ h;simp [RO.quiet] at hq
     ·cases h
    ·obtain ⟨i,hi,h⟩:=Option.bind_eq_some_iff.1 h
     split at h
     ·obtain ⟨rfl,rfl⟩:=qJ h;simp [RO.quiet] at hq
     ·cases h
    ·obtain ⟨i,hi,h⟩:=Option.bind_eq_some_iff.1 h
     obtain ⟨z,hz,h⟩:=Option.bind_eq_some_iff.1 h
     split at h
     ·obtain ⟨rfl,rfl⟩:=qJ h;simp [RO.quiet] at hq
     ·cases h
    ·cases h
   ·cases h
  ·unfold Cl at h
   split at h
   ·obtain ⟨i,hi,h⟩:=Option.map_eq_some_iff.1 h
    obtain ⟨rfl,rfl⟩:=Prod.mk.injEq ..▸h;simp [RO.quiet] at hq
   ·cases h
  ·obtain ⟨rfl,rfl⟩:=qJ h
   have:=qQb (P:=P) (w:=w) (ats:=argTypes) (ty:=o.type) (args:=args.map ρ) hr
   simp only [execOp,ho,resolve,List.map_toArray,Sem.run_bind,Sem.run_pure,Result.andThen_ok,invoke,builtin,this]
  ·obtain ⟨rfl,rfl⟩:=qJ h
   have:=qQd (P:=P) (w:=w) (ats:=argTypes) (ty:=o.type) (args:=args.map ρ) hr
   simp only [execOp,ho,resolve,List.map_toArray,Sem.run_bind,Sem.run_pure,Result.andThen_ok,invoke,builtin,this]
  ·unfold fT at h
   obtain ⟨z,hz,h⟩:=Option.map_eq_some_iff.1 h
   obtain ⟨rfl,rfl⟩:=Prod.mk.injEq ..▸h;simp [RO.quiet] at hq
  ·unfold pz at h
   split at h
   ·obtain ⟨z,hz,h⟩:=Option.map_eq_some_iff.1 h
    obtain ⟨rfl,rfl⟩:=Prod.mk.injEq ..▸h;simp [RO.quiet] at hq
   ·obtain ⟨rfl,rfl⟩:=qJ h;simp [RO.quiet] at hq
   ·cases h
  ·have:=qxI (w:=w) (ty:=o.type) h hr
   simp only [execOp,ho,resolve,List.map_toArray,Sem.run_bind,Sem.run_pure,Result.andThen_ok,invoke,builtin,this]
  ·cases h
theorem run_places:∀ (fs:List Field),(fs.all fun f=>(P.info? f.type).isSome)=true→(fs.mapM (fun f=>do pure (f.offset,← Go.sizeOf f.type):Field→Sem (Nat×Nat))).run P w=.ok (fs.map fun f=>(f.offset,((P.info? f.type).map (·.size)).getD 0)) w
 | [],_=>rfl
 | f::fs,h=>by
  simp only [List.all_cons,Bool.and_eq_true] at h
  obtain ⟨i,hi⟩:=Option.isSome_iff_exists.1 h.1
  have ih:=run_places fs h.2
  simp only [List.mapM_cons,Sem.run_bind,qn hi,Result.andThen_ok,Sem.run_pure,ih,List.map_cons,hi,Option.map_some,Option.getD_some]
theorem Ex {fields:Array Field}:∀ {l:List Nat} {ps:List (Nat×Nat)},placesOf P l fields=some ps →
  (l.map fun i=>(fields.map fun f=>(f.offset,((P.info? f.type).map (·.size)).getD 0))[i]?)=ps.map some
 | [],ps,h=>by simp only [placesOf,List.mapM_nil,pure,Option.some.injEq] at h;subst h;rfl
 | i::l,ps,h=>by
  simp only [placesOf,List.mapM_cons,bind,pure,Option.bind_eq_some_iff,Option.some.injEq] at h
  obtain ⟨p,⟨f,hf,hp⟩,r,hr,rfl⟩:=h
  obtain ⟨j,hj,rfl⟩:=Option.map_eq_some_iff.1 hp
  simp only [List.map_cons,Array.getElem?_map,hf,Option.map_some,hj,Option.getD_some]
  congr 1
  have:=Ex (l:=l) (ps:=r) (by simpa [placesOf,bind,pure] using hr)
  simpa using this
theorem Tw {t:TypeId} {parts:List (Nat×Operand)} (h:px P t parts=some (ro,xl)) (hr:rd ro (xl.map ρ) m=some v) :
  (Instr.build t ((parts.map fun (i,x)=>(i,ρ x)).toArray)).run P w=.ok v w:=by
 unfold px at h
 obtain ⟨⟨z,n⟩,hz,h⟩:=Option.bind_eq_some_iff.1 h
 unfold zeroOf at hz
 obtain ⟨i,hi,hz⟩:=Option.bind_eq_some_iff.1 hz
 obtain ⟨z',hz',e⟩:=Option.map_eq_some_iff.1 hz
 simp only [Prod.mk.injEq] at e
 obtain ⟨rfl,rfl⟩:=e
 have hzero:(zeroValue t).run P w=.ok z' w:=by simp [zeroValue,za hi,hz']
 split at h
 ·rename_i fields hu
  split at h
  case isFalse=>cases h
  rename_i hf
  obtain ⟨ps,hps,h⟩:=Option.map_eq_some_iff.1 h
  obtain ⟨rfl,rfl⟩:=Prod.mk.injEq ..▸h
  obtain ⟨l,hl,rfl⟩:=Option.map_eq_some_iff.1 hr
  have hpl:=run_places (P:=P) (w:=w) fields.toList (by
   unfold RK at hf
   rw [← Array.all_toList] at hf
   exact hf)
  have hm:=Ex hps
  have hfill:=rG (fun i:Nat=>(fields.map fun f=>(f.offset,((P.info? f.type).map (·.size)).getD 0))[i]?) (parts.map fun (i,x)=>(i,ρ x)) ps z'.cells l
   (by rw [List.map_map,← hm,List.map_map];rfl) (by rw [List.map_map];rw [List.map_map] at hl;exact hl)
  simp only [Instr.build,Sem.run_bind,hzero,Result.andThen_ok,qk hu]
  rw [Array.mapM_eq_mapM_toList]
  simp only [Sem.run_map,hpl,Result.andThen_ok]
  have e1:(fun i:Nat=>(List.map (fun f=>(f.offset,((P.info? f.type).map (·.size)).getD 0)) fields.toList).toArray[i]?)=fun i:Nat=>(fields.map fun f=>(f.offset,((P.info? f.type).map (·.size)).getD 0))[i]?:=by
   funext i;simp
  rw [e1]
  simp only [hfill] at *
  first | rfl | (rw [hfill];rfl)
 ·rename_i k e hu
  obtain ⟨j,hj,h⟩:=Option.map_eq_some_iff.1 h
  obtain ⟨rfl,rfl⟩:=Prod.mk.injEq ..▸h
  obtain ⟨l,hl,rfl⟩:=Option.map_eq_some_iff.1 hr
  have hfill:=rG (fun i=>some (i*j.size,j.size)) (parts.map fun (i,x)=>(i,ρ x)) (parts.map fun p=>(p.1*j.size,j.size)) z'.cells l
   (by simp [List.map_map]) (by rw [List.map_map];rw [List.map_map] at hl;exact hl)
  simp [Instr.build,hzero,qk hu,qn hj,hfill]
 ·cases h
theorem MS {t:TypeId} {x i:Operand} {ok:Bool} (h:fS P t x i ok=some (ro,xl)) (hr:rd ro (xl.map ρ) m=some v) (hw:qO w=m):(Instr.lookup t (ρ x) (ρ i) ok).run P w=.ok v w:=by
 unfold fS at h
 obtain ⟨⟨ag,ks,e⟩,hk,h⟩:=Option.bind_eq_some_iff.1 h
 obtain ⟨z,hz,h⟩:=Option.map_eq_some_iff.1 h
 obtain ⟨rfl,rfl⟩:=Prod.mk.injEq ..▸h
 unfold mY at hk
 split at hk
 case h_2=>cases hk
 rename_i k e' hu
 obtain ⟨ks',hl,hk⟩:=Option.map_eq_some_iff.1 hk
 simp only [Prod.mk.injEq] at hk
 obtain ⟨rfl,rfl,rfl⟩:=hk
 unfold zeroOf at hz
 obtain ⟨inf,hi,hz⟩:=Option.bind_eq_some_iff.1 hz
 obtain ⟨z',hz',rfl⟩:=Option.map_eq_some_iff.1 hz
 have hzero:(zeroValue e').run P w=.ok z' w:=by simp [zeroValue,za hi,hz']
 simp only [List.map_cons,List.map_nil,rd,RO.reads,rdm] at hr
 split at hr
 case isFalse=>cases hr
 rename_i hok
 obtain ⟨es,he,hr⟩:=Option.bind_eq_some_iff.1 hr
 obtain ⟨r,hf,hr⟩:=Option.map_eq_some_iff.1 hr
 have h1:=aY (w:=w) (em:=es.isEmpty) hl hok
 have h2:=ow (w:=w) hl (Vh hok).1 hf
 have tail:(do
   Instr.checkKey es.isEmpty 10000 k (ρ i)
   let (v,found) ← match ← Instr.findKey k (ρ i) es.toList with
    | some (_,v)=>pure (v,true)
    | none=>pure (← zeroValue e',false)
   pure (if ok then .tuple #[v,.bool found] else v):Sem Value).run P w=.ok v w:=by
  simp only [Sem.run_bind,h1,h2,Result.andThen_ok]
  cases r with
  | none =>
   simp only at hr
   simp only [Sem.run_bind,hzero,Result.andThen_ok,Sem.run_pure]
   subst hr;rfl
  | some jv =>
   obtain ⟨j,u⟩:=jv
   simp only at hr
   simp only []
   subst hr;rfl
 unfold entriesOf at he
 split at he
 ·rename_i hx
  simp only [Option.some.injEq] at he;subst he
  rw [← tail]
  simp only [Instr.lookup,Sem.run_bind,qk hu,Result.andThen_ok,hx,Sem.run_pure]
  rfl
 ·rename_i b hx
  split at he
  ·rename_i es' c hr'
   simp only [Option.some.injEq] at he;subst he
   subst hw
   rw [← tail]
   simp only [Instr.lookup,Sem.run_bind,qk hu,Result.andThen_ok,hx,run_getObj_map hr',Sem.run_pure]
   rfl
  ·cases he
 ·cases he
theorem qxM {a:Addr} {n:Nat} {l:List Value} (h:jN m a 0 n=some l) {bs:List UInt8} (hb:Vf l=some bs) (hw:qO w=m) {k:Nat}:(Conv.bytesToString (.slice (some a) n k)).run P w=.ok (.string ⟨bs.toArray⟩) w:=by
 have h1:=run_loadCellsFrom (P:=P) hw a n 0 #[] l h
 have go:∀ (l:List Value) (bs:List UInt8) (s:ByteArray),Vf l=some bs →
   (forIn l s (fun c r=>do
    let s:=r
    let .int .u8 n:=c | do { (stuck "bytesToString: byte expected":Sem Unit);pure (ForInStep.yield s) }
    pure (ForInStep.yield (s.push (UInt8.ofNat n.toNat)))):Sem ByteArray).run P w=.ok (s++⟨bs.toArray⟩) w:=by
  intro l
  induction l with
  | nil =>
   intro bs s hb
   simp only [Vf,Option.some.injEq] at hb;subst hb
   have:s++⟨([]:List UInt8).toArray⟩=s:=by apply ByteArray.ext;simp
   rw [this];simp
  | cons v l ih =>
   intro bs s hb
   unfold Vf at hb
   split at hb
   ·cases ‹_::_=[]›
   ·rename_i n r e
    cases e
    obtain ⟨bs',hb',rfl⟩:=Option.map_eq_some_iff.1 hb
    rw [List.forIn_cons]
    simp only [Sem.run_bind,Sem.run_pure,Result.andThen_ok]
    rw [ih bs' _ hb']
    congr 1
    apply ByteArray.ext
    apply Array.ext'
    simp
   ·cases hb
 have:=go l bs .empty hb
 simp only [Conv.bytesToString,loadCells,Sem.run_bind,h1,Result.andThen_ok]
 rw [← Array.forIn_toList]
 simp at this ⊢
 refine (congrArg (fun r=>Result.andThen r fun a w'=>.ok (Value.string a) w') this).trans ?_
 simp
theorem Rw {r:Nat} {mm:Option Nat} {a b:Nat} {s:Array Nat} (h:qO w r=some (.mapIter mm a s b)):(getObj r).run P w=.ok (.mapIter mm a s b) w:=by
 have h':w.heap[r]?=some (.mapIter mm a s b):=h
 simp [getObj,Sem.run,h']
theorem Rb {it:Operand} (hr:rd .ent [ρ it] m=some v) (hw:qO w=m):(Instr.entry (ρ it)).run P w=.ok v w:=by
 obtain ⟨⟨b,o,s⟩,hx,e⟩:=cj hr
 unfold CD at e
 split at e
 case isFalse=>cases e
 rename_i ho
 simp only at ho;subst ho
 split at e
 case h_2=>cases e
 rename_i mb since seen last hb
 split at e
 case h_2=>cases e
 rename_i stamp hs
 split at e
 case h_2=>cases e
 rename_i es clock hm
 split at e
 case isFalse=>cases e
 rename_i hc
 obtain ⟨en,he,rfl⟩:=Option.map_eq_some_iff.1 e
 subst hw;subst hc
 simp only [Instr.entry,hx,Sem.run_bind,Rw hb,Result.andThen_ok,hs,run_getObj_map hm,bne_self_eq_false,Bool.false_eq_true,if_false,Sem.run_pure,he]
theorem IG {o:Oper} (h:qz P o=some (ro,xl)) (hq:ro.quiet=true) (hr:rd ro (xl.map ρ) m=some v) (hw:qO w=m) (hρ:∀ f,ρ (.func f)=.func (.func f) #[] #[]) :
  (execOp ρ o).run P w=.ok (.value v) w:=by
 have h0:=IH h
 clear h
 rcases h0 with h | h
 case inr=>cases h;simp [RO.quiet] at hq
 obtain ⟨dst,op,type,pos,after,guard⟩:=o
 cases op<;>simp only [qkP,reduceCtorEq] at h
 case call c=>exact qqE rfl h hq hr hw hρ
 case binOp op t x y u =>
  have:=qqL (w:=w) (by assumption) h hr
  simp only [Sem.run_bind] at this
  simp only [execOp,Sem.run_bind,this]
  rfl
 case move x=>obtain ⟨rfl,rfl⟩:=qJ h;simp only [List.map_cons,List.map_nil,rd,rdp,RO.reads,Option.some.injEq] at hr;subst hr;simp [execOp]
 case assign x=>obtain ⟨rfl,rfl⟩:=qJ h;simp only [List.map_cons,List.map_nil,rd,rdp,RO.reads,Option.some.injEq] at hr;subst hr;simp [execOp]
 case pick c a b =>
  obtain ⟨rfl,rfl⟩:=qJ h
  obtain ⟨t,hx,e⟩:=qwA hr
  simp only [Option.some.injEq] at e;subst e
  cases t<;>simp [execOp,hx,asBool]
 case nilCheck x =>
  obtain ⟨rfl,rfl⟩:=qJ h
  obtain ⟨a,hx,e⟩:=cj hr
  simp only [Option.some.injEq] at e;subst e
  simp [execOp,hx]
 case fieldAddr s x f =>
  split at h
  ·rename_i fields hu
   obtain ⟨fl,hf,h⟩:=Option.bind_eq_some_iff.1 h
   obtain ⟨i,hi,h⟩:=Option.bind_eq_some_iff.1 h
   split at h
   ·cases h
   ·rename_i hz
    obtain ⟨rfl,rfl⟩:=qJ h
    obtain ⟨a,hx,e⟩:=cj hr
    simp only [Option.some.injEq] at e;subst e
    simp [execOp,Instr.fieldAt,qk hu,hf,hx,Instr.sureAddr,fieldPlace,qn hi,hz]
  ·cases h
 case indexAddr t x i =>
  split at h
  ·rename_i e hu
   obtain ⟨j,hj,h⟩:=Option.map_eq_some_iff.1 h
   obtain ⟨rfl,rfl⟩:=Prod.mk.injEq ..▸h
   obtain ⟨a,n,c,hx,e⟩:=tc hr
   obtain ⟨k,i,hi,e⟩:=Zb e
   split at e
   ·rename_i hb
    cases a with
    | none=>simp at e
    | some a =>
     simp only [Option.map_some,Option.some.injEq] at e;subst e
     simp [execOp,Instr.indexAt,qk hu,hx,hi,asIntOf,qn hj,hb]
   ·cases e
  ·rename_i n e hu
   obtain ⟨j,hj,h⟩:=Option.map_eq_some_iff.1 h
   obtain ⟨rfl,rfl⟩:=Prod.mk.injEq ..▸h
   obtain ⟨a,hx,e⟩:=cj hr
   obtain ⟨k,i,hi,e⟩:=Zb e
   split at e
   ·rename_i hb
    simp only [Option.some.injEq] at e;subst e
    simp [execOp,Instr.indexAt,qk hu,hx,hi,asIntOf,qn hj,hb,Instr.sureAddr]
   ·cases e
  ·cases h
 case load t x =>
  split at h
  ·rename_i hp
   obtain ⟨rfl,rfl⟩:=qJ h
   obtain ⟨a,hx,e⟩:=cj hr
   simp [execOp,Instr.loadAt,hx,Instr.sureAddr,loadVar,fx hp,ab hw e,-run_load]
  ·split at h
   ·rename_i hp
    obtain ⟨i,hi,h⟩:=Option.map_eq_some_iff.1 h
    obtain ⟨rfl,rfl⟩:=Prod.mk.injEq ..▸h
    obtain ⟨a,hx,e⟩:=cj hr
    obtain ⟨l,hl,rfl⟩:=Option.map_eq_some_iff.1 e
    simp [execOp,Instr.loadAt,hx,Instr.sureAddr,loadVar,uK hp,qn hi,loadCells,run_loadCellsFrom hw a _ _ _ _ hl]
   ·cases h
 case store t a x=>obtain ⟨i,hi,h⟩:=Option.map_eq_some_iff.1 h;obtain ⟨rfl,rfl⟩:=Prod.mk.injEq ..▸h;simp [RO.quiet] at hq
 case alloc t=>obtain ⟨i,hi,h⟩:=Option.map_eq_some_iff.1 h;obtain ⟨rfl,rfl⟩:=Prod.mk.injEq ..▸h;simp [RO.quiet] at hq
 case box t x=>obtain ⟨rfl,rfl⟩:=qJ h;simp [RO.quiet] at hq
 case unOp op t x =>
  cases op<;>simp only [qkN,reduceCtorEq] at h
  ·split at h
   ·obtain ⟨rfl,rfl⟩:=qJ h
    obtain ⟨k,n,hx,e⟩:=Zb hr
    simp only [Option.some.injEq] at e;subst e
    simp [execOp,hx,Op.unary,Op.intArith]
   ·cases h
  ·split at h
   ·obtain ⟨rfl,rfl⟩:=qJ h
    obtain ⟨k,n,hx,e⟩:=Zb hr
    simp only [Option.some.injEq] at e;subst e
    simp [execOp,hx,Op.unary,Op.intBits]
   ·cases h
  ·obtain ⟨rfl,rfl⟩:=qJ h
   obtain ⟨b,hx,e⟩:=qwA hr
   simp only [Option.some.injEq] at e;subst e
   simp [execOp,hx,Op.unary]
 case convert s d x =>
  split at h
  ·rename_i k k' h1 h2
   obtain ⟨rfl,rfl⟩:=qJ h
   obtain ⟨k0,n,hx,e⟩:=Zb hr
   simp only [Option.some.injEq] at e;subst e
   simp [execOp,hx,convert,qk h1,qk h2,Conv.intToInt]
  ·rename_i h1 h2
   obtain ⟨rfl,rfl⟩:=qJ h
   obtain ⟨s,hx,e⟩:=LG hr
   simp only [Option.some.injEq] at e;subst e
   simp [execOp,hx,convert,qk h1,qk h2]
  ·rename_i e h1 h2
   split at h
   ·rename_i he
    obtain ⟨rfl,rfl⟩:=qJ h
    have he':P.underlying e=some (.int .u8):=he
    obtain ⟨a,n,c,hx,e⟩:=tc hr
    obtain ⟨l,hl,e⟩:=Option.bind_eq_some_iff.1 e
    obtain ⟨bs,hb,rfl⟩:=Option.map_eq_some_iff.1 e
    cases a with
    | none =>
     simp only [ldS,Option.some.injEq] at hl;subst hl
     simp only [Vf,Option.some.injEq] at hb;subst hb
     simp only [execOp,hx,convert,Sem.run_bind,qk h1,qk h2,Result.andThen_ok,qk he',Conv.bytesToString,Sem.run_pure]
     rfl
    | some a =>
     simp only [ldS] at hl
     have:=qxM (P:=P) hl hb hw (k:=c)
     simp only [execOp,hx,convert,Sem.run_bind,qk h1,qk h2,Result.andThen_ok,qk he',this,Sem.run_pure]
   ·cases h
  ·rename_i e h1 h2
   split at h
   ·obtain ⟨rfl,rfl⟩:=qJ h;simp [RO.quiet] at hq
   ·cases h
  ·split at h
   ·obtain ⟨rfl,rfl⟩:=qJ h;simp [RO.quiet] at hq
   ·cases h
  ·cases h
 case makeInterface xt x =>
  split at h
  ·cases h
  ·rename_i hif
   obtain ⟨rfl,rfl⟩:=qJ h
   simp only [List.map_cons,List.map_nil,rd,rdp,RO.reads,Option.some.injEq] at hr;subst hr
   simp only [Bool.or_eq_true,not_or,Bool.not_eq_true,Option.isNone_eq_false_iff] at hif
   obtain ⟨h1,h2⟩:=hif
   obtain ⟨d,hd⟩:=Option.isSome_iff_exists.1 h2
   unfold qQp at h1
   cases d<;>simp [hd] at h1<;>simp [execOp,Instr.makeInterface,qk hd]
 case field t x f =>
  split at h
  ·rename_i fields hu
   obtain ⟨fl,hf,h⟩:=Option.bind_eq_some_iff.1 h
   split at h
   ·rename_i hp
    obtain ⟨rfl,rfl⟩:=qJ h
    obtain ⟨cs,hx,e⟩:=ua hr
    simp [execOp,Instr.field,qk hu,hf,hx,asAgg,aB hp e]
   ·split at h
    ·rename_i hp
     obtain ⟨i,hi,h⟩:=Option.map_eq_some_iff.1 h
     obtain ⟨rfl,rfl⟩:=Prod.mk.injEq ..▸h
     obtain ⟨cs,hx,e⟩:=ua hr
     simp only [Option.some.injEq] at e;subst e
     simp [execOp,Instr.field,qk hu,hf,hx,asAgg,aA hp hi]
    ·cases h
  ·cases h
 case extract x i =>
  obtain ⟨rfl,rfl⟩:=qJ h
  obtain ⟨vs,hx,e⟩:=qJs hr
  simp [execOp,Instr.extract,hx,e]
 case makeSlice t l c =>
  split at h
  ·obtain ⟨i,hi,h⟩:=Option.bind_eq_some_iff.1 h
   obtain ⟨z,hz,h⟩:=Option.bind_eq_some_iff.1 h
   split at h
   ·obtain ⟨rfl,rfl⟩:=qJ h;simp [RO.quiet] at hq
   ·cases h
  ·cases h
 case build t parts =>
  have:=Tw (w:=w) h hr
  obtain ⟨parts⟩:=parts
  simp only [execOp,List.map_toArray,Sem.run_bind,this,Result.andThen_ok,Sem.run_pure]
 case buildSlice t len parts =>
  unfold ae at h
  split at h
  ·obtain ⟨i,hi,h⟩:=Option.bind_eq_some_iff.1 h
   obtain ⟨z,hz,h⟩:=Option.bind_eq_some_iff.1 h
   split at h
   ·obtain ⟨rfl,rfl⟩:=qJ h;simp [RO.quiet] at hq
   ·cases h
  ·cases h
 case slice t x lo hi mx =>
  cases mx with
  | none =>
   simp only [Option.isNone_none,if_true] at h
   have:=OU (w:=w) h hr
   simp [execOp,this]
  | some mx =>
   simp only [Option.isNone_some,Bool.false_eq_true,if_false] at h
   have:=Mj (w:=w) h hr
   simp only [Option.map_some] at this
   simp [execOp,this]
 case index t x i =>
  split at h
  ·rename_i n e hu
   split at h
   ·rename_i hp
    obtain ⟨j,hj,h⟩:=Option.map_eq_some_iff.1 h
    obtain ⟨rfl,rfl⟩:=Prod.mk.injEq ..▸h
    obtain ⟨cs,hx,e⟩:=ua hr
    obtain ⟨k,i,hi,e⟩:=Zb e
    split at e
    ·rename_i hb
     simp [execOp,Instr.index,hx,hi,asIntOf,qk hu,hb,qn hj,aB hp e]
    ·cases e
   ·split at h
    ·rename_i hp
     obtain ⟨j,hj,h⟩:=Option.map_eq_some_iff.1 h
     obtain ⟨rfl,rfl⟩:=Prod.mk.injEq ..▸h
     obtain ⟨cs,hx,e⟩:=ua hr
     obtain ⟨k,i,hi,e⟩:=Zb e
     split at e
     ·rename_i hb
      simp only [Option.some.injEq] at e;subst e
      simp [execOp,Instr.index,hx,hi,asIntOf,qk hu,hb,qn hj,aA hp hj]
     ·cases e
    ·cases h
  ·rename_i hu
   obtain ⟨rfl,rfl⟩:=qJ h
   obtain ⟨s,hx,e⟩:=LG hr
   obtain ⟨k,i,hi,e⟩:=Zb e
   split at e
   ·rename_i hb
    obtain ⟨b,hb',rfl⟩:=Option.map_eq_some_iff.1 e
    simp [execOp,Instr.index,hx,hi,asIntOf,qk hu,hb,hb']
   ·cases e
  ·cases h
 case makeFunc fn first captured =>
  obtain ⟨rfl,rfl⟩:=qJ h
  have hr:some (Value.func fn (((first.toList++captured.toList).map ρ).take first.size).toArray (((first.toList++captured.toList).map ρ).drop first.size).toArray)=some v:=hr
  simp only [Option.some.injEq] at hr;subst hr
  have e1:((first.toList++captured.toList).map ρ).take first.size=(first.map ρ).toList:=by simp
  have e2:((first.toList++captured.toList).map ρ).drop first.size=(captured.map ρ).toList:=by simp
  rw [e1,e2,Array.toArray_toList,Array.toArray_toList]
  simp only [execOp,Instr.makeFunc,Sem.run_bind,Sem.run_pure,Result.andThen_ok]
 case makeMap t r =>
  split at h
  ·obtain ⟨rfl,rfl⟩:=qJ h;simp [RO.quiet] at hq
  ·cases h
 case lookup t x i ok =>
  have:=MS (w:=w) h hr hw
  simp [execOp,this]
 case mapUpdate t a k x=>obtain ⟨z,hz,h⟩:=Option.map_eq_some_iff.1 h;obtain ⟨rfl,rfl⟩:=Prod.mk.injEq ..▸h;simp [RO.quiet] at hq
 case insert t a k x=>obtain ⟨z,hz,h⟩:=Option.map_eq_some_iff.1 h;obtain ⟨rfl,rfl⟩:=Prod.mk.injEq ..▸h;simp [RO.quiet] at hq
 case range t x =>
  split at h
  ·obtain ⟨rfl,rfl⟩:=qJ h;simp [RO.quiet] at hq
  ·cases h
 case next it isS =>
  split at h
  ·cases h
  ·obtain ⟨rfl,rfl⟩:=qJ h;simp [RO.quiet] at hq
 case entry it =>
  obtain ⟨rfl,rfl⟩:=qJ h
  have:=Rb (P:=P) hr hw
  simp only [execOp,Sem.run_bind,this,Result.andThen_ok,Sem.run_pure]
end sound
end Go.Fw
namespace Go.Fw
def qjK (P:Program) (w:World) (K:Value→Mem→Prop):Result Next→Prop
 | .ok (.value v) w'=>jn w w'∧K v (qO w')
 | .ok .skip w'=>jn w w'∧K undef (qO w')
 | .ok (.enter f args) w'=>jn w w'∧Calls P f args w' fun e w''=>∃ v,e=.returned v∧jn w' w''∧K v (qO w'')
 | _=>False
def Gh (P:Program) (o:Oper) (ρ:Operand→Value) (m:Mem) (K:Value→Mem→Prop):Prop :=
 ∀ w,qO w=m→qjK P w K ((execOp ρ o).run P w)
section sound
variable {P:Program} {ro:RO} {xl:List Operand} {m m':Mem} {w:World} {ρ:Operand→Value} {K:Value→Mem→Prop}
theorem kV (w:World):qO w w.heap.size=none:=by simp [qO]
theorem yv (w:World) (o:Obj):qO { w with heap:=w.heap.push o }=(qO w).set w.heap.size o:=by
 funext b
 simp only [qO,Mem.set,Array.getElem?_push]
theorem DK (w:World) (o:Obj):jn w { w with heap:=w.heap.push o }:=⟨rfl,rfl,by simp,rfl,Nat.le_refl _⟩
theorem fO (w:World) (c:Array Value) (t:TypeId):jn w { w with heap:=w.heap.push (.cells c t) }:=⟨rfl,rfl,by simp,rfl,Nat.le_refl _⟩
theorem IF (w:World) (n:Nat) (h:w.drawn≤n):jn w { w with drawn:=n }:=⟨rfl,rfl,Nat.le_refl _,rfl,h⟩
theorem Oh {w:World} {a:Addr} {v:Value} {m':Mem} (h:qjL (qO w) a v=some m') :
  qO (w.setCell a v)=m'∧jn w (w.setCell a v)∧(∃ u,w.cell? a=some u)∧w.frozen? a=false:=by
 unfold qjL at h
 split at h
 ·rename_i c t fr hb
  split at h
  ·cases h
  ·rename_i hc
   simp only [Option.some.injEq] at h;subst h
   simp only [Bool.or_eq_true,Bool.and_eq_true,Bool.not_eq_true',not_or,decide_eq_true_eq,decide_eq_false_iff_not,Decidable.not_not] at hc
   obtain ⟨⟨hs,hlt⟩,hfr⟩:=hc
   have hs':a.spot.isSome=false:=by simpa using hs
   have hb':w.heap[a.block]?=some (.cells c t fr):=hb
   refine ⟨?_,⟨rfl,rfl,by simp [World.setCell],rfl,Nat.le_refl _⟩,⟨c[a.off],?_⟩,?_⟩
   ·funext b
    simp only [qO,World.setCell,Mem.set,Array.getElem?_modify]
    by_cases e:b=a.block
    ·subst e;simp [hb',hs']
    ·rw [if_neg (fun h=>e h.symm),if_neg e]
   ·simp only [World.cell?,hb',hs',Bool.false_eq_true,if_false]
    exact Array.getElem?_eq_getElem hlt
   ·simp only [World.frozen?,hb']
    simpa using hfr
 ·cases h
theorem xo (a:Addr):∀ (l:List Value) (i:Nat) (w:World) (m':Mem),zT (qO w) a i l=some m' →
  ∃ w',(storeCells a l i).run P w=.ok () w'∧qO w'=m'∧jn w w'
 | [],i,w,m',h=>by simp only [zT,Option.some.injEq] at h;subst h;exact ⟨w,by simp [storeCells],rfl,jn.oU w⟩
 | v::r,i,w,m',h=>by
  simp only [zT] at h
  split at h
  ·rename_i hv
   obtain ⟨m1,h1,h2⟩:=Option.bind_eq_some_iff.1 h
   obtain ⟨e1,s1,⟨u,hu⟩,hf⟩:=Oh h1
   rw [← e1] at h2
   obtain ⟨w',hr,e2,s2⟩:=xo a r (i+1) (w.setCell (a.add i) v) m' h2
   refine ⟨w',?_,e2,s1.trans s2⟩
   have hst:(store (a.add i) v).run P w=.ok () (w.setCell (a.add i) v):=by rw [run_store P w _ v _ hv,hu];simp [hf]
   simp only [storeCells,Sem.run_bind,hst,Result.andThen_ok,hr]
  ·cases h
theorem xn {t:TypeId} {i:TypeInfo} {z:Value} (h:P.info? t=some i) (hz:i.zero=some z):(zeroValue t).run P w=.ok z w:=by
 simp [zeroValue,za h,hz]
theorem wrap_i64 {n:Int} (h0 : -9223372036854775808≤n) (h1:n≤9223372036854775807):IntKind.i64.wrap n=n:=by
 simp only [IntKind.wrap,IntKind.bits,IntKind.signed,Bool.true_and]
 by_cases h:n % 2 ^ 64≥2 ^ 63
 ·rw [if_pos (by simpa using h)];omega
 ·rw [if_neg (by simpa using h)];omega
theorem cK (z:Array Value) (n:Nat) (_hz:0 < z.size):(Array.range (n*z.size)).map (fun i=>z[i % z.size]!)=(List.replicate n z.toList).flatten.toArray:=by
 apply Array.ext'
 simp only [Array.toList_map,Array.toList_range]
 induction n with
 | zero=>simp
 | succ n ih =>
  rw [Nat.succ_mul,List.range_add,List.map_append,ih,List.replicate_succ',List.flatten_append]
  congr 1
  simp only [List.map_map,List.flatten_cons,List.flatten_nil,List.append_nil]
  apply List.ext_getElem
  ·simp
  ·intro i h1 h2
   simp only [List.length_map,List.length_range] at h1
   simp [Nat.mod_eq_of_lt h1,h1]
theorem VW (z:Array Value) (n:Nat):Builtin.zeroCells z n=(List.replicate n z.toList).flatten.toArray:=by
 by_cases hz:0 < z.size
 ·exact cK z n hz
 ·have h0:z.size=0:=by omega
  have h1:z.toList=[]:=List.eq_nil_of_length_eq_zero (by simpa using h0)
  have h2:(List.replicate n ([]:List Value)).flatten=[]:=by simp
  rw [h1,h2]
  apply Array.eq_empty_of_size_eq_zero
  simp [Builtin.zeroCells,h0]
theorem add_add (a:Addr) (i j:Nat):(a.add i).add j=a.add (i+j):=by
 unfold Addr.add
 by_cases hi:i=0<;>by_cases hj:j=0<;>simp [hi,hj,Nat.add_assoc]
theorem oL (a:Addr) (n:Nat):∀ (l:List Value) (m:Mem) (i:Nat),zT m (a.add n) i l=zT m a (n+i) l
 | [],m,i=>rfl
 | v::r,m,i=>by
  simp only [zT,add_add]
  split
  ·congr 1;funext m';rw [oL a n r m' (i+1)];rfl
  ·rfl
theorem AK (m:Mem) (a:Addr) (n:Nat) (l:List Value):zT m (a.add n) 0 l=zT m a n l:=oL a n l m 0
theorem DY {t e:TypeId} {i:TypeInfo} {z:Value} (hu:P.underlying t=some (.slice e)) (hi:P.info? e=some i) (hz:i.zero=some z) (_hsz:z.cells.size=i.size) (_hpos:0 < i.size)
  {y:Value} {k:Nat} {news:List Value} (hlen:(match y with | .slice _ n _=>some n | .string s=>some s.size | _=>none)=some k)
  (hfirst:∀ w,qO w=m→(Builtin.firstCells i.size k y).run P w=.ok news.toArray w) {ats:Array TypeId} {at1:TypeId} (h0:ats[0]?=some t) (h1:ats[1]?=some at1)
  {d1:TypeDesc} (hu1:P.underlying at1=some d1) (hnz:d1=.string∨∃ e',d1=.slice e') {ty:TypeId} {base:Option Addr} {n cap:Nat} (hw:qO w=m) (hx:Oe i.size i.bytes z.cells.toList e m K base n cap news k) :
  ∃ v' w',(Builtin.append_ ats ty #[.slice base n cap,y]).run P w=.ok v' w'∧jn w w'∧K v' (qO w'):=by
 obtain ⟨hb,h62,hin,hgrow⟩:=hx
 have hlenOf:(Builtin.lenOf y).run P w=.ok k w:=by
  cases y<;>simp at hlen<;>simp [Builtin.lenOf,hlen]
 have hzr:(do pure ((← underlying at1) matches .int _):Sem Bool).run P w=.ok false w:=by
  rcases hnz with rfl | ⟨e',rfl⟩<;>simp [qk hu1]
 by_cases hc:n+k≤cap
 ·have hin:=hin hc
  cases base with
  | none =>
   refine ⟨.slice none (n+k) cap,w,?_,jn.oU w,by rw [hw];exact hin⟩
   rcases hnz with rfl | ⟨e',rfl⟩ <;>
    simp [Builtin.append_,h0,h1,qk hu,qk hu1,qn hi,hlenOf,hc,hfirst w hw]
  | some a =>
   obtain ⟨m',hst,hk⟩:=hin
   subst hw
   obtain ⟨w',hrs,he,hs⟩:=xo (P:=P) (a.add (n*i.size)) news 0 w m' (by rw [← hst];exact AK _ _ _ _)
   refine ⟨.slice (some a) (n+k) cap,w',?_,hs,by rw [he];exact hk⟩
   rcases hnz with rfl | ⟨e',rfl⟩ <;>
    simp [Builtin.append_,h0,h1,qk hu,qk hu1,qn hi,hlenOf,hc,hfirst w rfl,hrs]
 ·have hlt:cap < n+k:=by omega
  obtain ⟨old,hold,hk⟩:=hgrow hlt
  have hfit:=growslice_fits hlt hb
  have hold':∀ w2,qO w2=m→(Builtin.firstCells i.size n (.slice base n cap)).run P w2=.ok old.toArray w2:=fun w2 hw2=>by
   cases base with
   | none=>simp only [ldS,Option.some.injEq] at hold;subst hold;simp [Builtin.firstCells]
   | some b=>simp only [ldS] at hold;simp [Builtin.firstCells,loadCells,run_loadCellsFrom hw2 b _ 0 _ _ hold]
  have hz':∀ w2,(zeroValue e).run P w2=.ok z w2:=fun w2=>xn (P:=P) (w:=w2) hi hz
  let q:=Question.appendCap (n+k) cap e
  let w2:World:={ w with drawn:=w.drawn+1 }
  let nc:=q.cut (w.tape w.drawn q)
  have hnc:n+k≤nc:=by simp only [nc,q,Question.cut];omega
  have hcells:=VW z.cells (nc - (n+k))
  have hfin:=hk nc w.heap.size hnc (by rw [← hw];exact kV w)
  refine ⟨.slice (some ⟨w.heap.size,0,none⟩) (n+k) nc,{ w2 with heap:=w2.heap.push (.cells (old++news++(List.replicate (nc - (n+k)) z.cells.toList).flatten).toArray e) },?_,⟨rfl,rfl,by simp [w2],rfl,Nat.le_succ _⟩,?_⟩
  ·have hnot:¬ (281474976710656 < Builtin.nextslicecap (n+k) cap*i.bytes):=by omega
   have h63:¬ (9223372036854775807 < (n:Int)+k∧i.bytes=0):=by omega
   have hold2:=hold' w2 hw
   have hfirst2:=hfirst w2 hw
   have hcap:(choose q).run P w=.ok nc w2:=by simp [q,nc,w2,Question.forced]
   simp only [q] at hcap
   rcases hnz with rfl | ⟨e',rfl⟩ <;>
    simp [Builtin.append_,h0,h1,qk hu,qk hu1,qn hi,hlenOf,hc,-run_choose,hcap,hold2,hfirst2,hz',za hi,newRow,hcells,hnot]
   all_goals (rw [if_neg h63])
  ·rw [yv]
   have:qO w2=m:=hw
   rw [this]
   exact hfin
theorem Pj {t e:TypeId} {i:TypeInfo} {z:Value} (hu:P.underlying t=some (.slice e)) (hi:P.info? e=some i) (hz:i.zero=some z) (_hsz:z.cells.size=i.size) (_hpos:0 < i.size)
  {k:Int} (h0:0≤k) (hkb:k*(i.bytes:Int)≤281474976710656) {ats:Array TypeId} {at1:TypeId} (hat0:ats[0]?=some t) (hat1:ats[1]?=some at1)
  (hu1:P.underlying at1=some (.int .i64)) {ty:TypeId} {base:Option Addr} {n cap:Nat} (hw:qO w=m) (hx:Oe i.size i.bytes z.cells.toList e m K base n cap (List.replicate k.toNat z.cells.toList).flatten k.toNat) :
  ∃ v' w',(Builtin.append_ ats ty #[.slice base n cap,.int .i64 k]).run P w=.ok v' w'∧jn w w'∧K v' (qO w'):=by
 obtain ⟨hb,h62,hin,hgrow⟩:=hx
 have hkk:(k.toNat:Int)=k:=Int.toNat_of_nonneg h0
 have hwrap:IntKind.i64.wrap k=k:=wrap_i64 (by omega) (by omega)
 have hz':∀ w2,(zeroValue e).run P w2=.ok z w2:=fun w2=>xn (P:=P) (w:=w2) hi hz
 have hA:k.toNat*i.size=0→(List.replicate k.toNat z.cells.toList).flatten=[]:=fun hk0=>by
  have:k.toNat=0:=by
   rcases Nat.mul_eq_zero.1 hk0 with h | h
   ·exact h
   ·omega
  simp [this]
 have hB:=VW z.cells k.toNat
 have hneg:¬ k < 0:=by omega
 have hbig:¬ (281474976710656 < k*(i.bytes:Int)):=by omega
 generalize (List.replicate k.toNat z.cells.toList).flatten=news at *
 by_cases hc:n+k.toNat≤cap
 ·have hin:=hin hc
  cases base with
  | none =>
   refine ⟨.slice none (n+k.toNat) cap,w,?_,jn.oU w,by rw [hw];exact hin⟩
   by_cases hk0:k.toNat*i.size=0
   all_goals simp [hk0,Builtin.append_,hat0,hat1,qk hu,qk hu1,qn hi,za hi,asInt,asIntOf,hwrap,hneg,hbig,hc,hz' w]
  | some a =>
   obtain ⟨m',hst,hk⟩:=hin
   subst hw
   obtain ⟨w',hrs,he,hs⟩:=xo (P:=P) (a.add (n*i.size)) news 0 w m' (by rw [← hst];exact AK _ _ _ _)
   refine ⟨.slice (some a) (n+k.toNat) cap,w',?_,hs,by rw [he];exact hk⟩
   by_cases hk0:k.toNat*i.size=0
   ·rw [hA hk0] at hrs
    simp [Builtin.append_,hat0,hat1,qk hu,qk hu1,qn hi,za hi,asInt,asIntOf,hwrap,hneg,hbig,hc,hk0,hrs]
   ·simp [Builtin.append_,hat0,hat1,qk hu,qk hu1,qn hi,za hi,asInt,asIntOf,hwrap,hneg,hbig,hc,hk0,hz' w,hB,hrs]
 ·have hlt:cap < n+k.toNat:=by omega
  obtain ⟨old,hold,hk⟩:=hgrow hlt
  have hfit:=growslice_fits hlt hb
  have hold':∀ w2,qO w2=m→(Builtin.firstCells i.size n (.slice base n cap)).run P w2=.ok old.toArray w2:=fun w2 hw2=>by
   cases base with
   | none=>simp only [ldS,Option.some.injEq] at hold;subst hold;simp [Builtin.firstCells]
   | some b=>simp only [ldS] at hold;simp [Builtin.firstCells,loadCells,run_loadCellsFrom hw2 b _ 0 _ _ hold]
  let q:=Question.appendCap (n+k.toNat) cap e
  let w2:World:={ w with drawn:=w.drawn+1 }
  let nc:=q.cut (w.tape w.drawn q)
  have hnc:n+k.toNat≤nc:=by simp only [nc,q,Question.cut];omega
  have hcells:=VW z.cells (nc - (n+k.toNat))
  have hfin:=hk nc w.heap.size hnc (by rw [← hw];exact kV w)
  refine ⟨.slice (some ⟨w.heap.size,0,none⟩) (n+k.toNat) nc,{ w2 with heap:=w2.heap.push (.cells (old++news++(List.replicate (nc - (n+k.toNat)) z.cells.toList).flatten).toArray e) },?_,⟨rfl,rfl,by simp [w2],rfl,Nat.le_succ _⟩,?_⟩
  ·have hnot:¬ (281474976710656 < Builtin.nextslicecap (n+k.toNat) cap*i.bytes):=by omega
   have h63:¬ (9223372036854775807 < (n:Int)+(k.toNat:Int)):=by omega
   have hold2:=hold' w2 hw
   have hcap:(choose q).run P w=.ok nc w2:=by simp [q,nc,w2,Question.forced]
   simp only [q] at hcap
   by_cases hk0:k.toNat*i.size=0
   ·have hA:=hA hk0
    simp [Builtin.append_,hat0,hat1,qk hu,qk hu1,qn hi,za hi,asInt,asIntOf,hwrap,hneg,hbig,hc,-run_choose,hcap,hold2,hk0,hA,hz',newRow,hcells,hnot]
    all_goals first | done | (rw [if_neg (by omega)];first | rfl | done)
   ·simp [Builtin.append_,hat0,hat1,qk hu,qk hu1,qn hi,za hi,asInt,asIntOf,hwrap,hneg,hbig,hc,-run_choose,hcap,hold2,hk0,hB,hz',newRow,hcells,hnot]
    all_goals first | done | (rw [if_neg (by omega)];first | rfl | done)
  ·rw [yv]
   have:qO w2=m:=hw
   rw [this]
   exact hfin
theorem qwG {o:Oper} {args:List Operand} {ats:Array TypeId} (ho:o.op=.call ⟨.builtin .append,⟨args⟩,ats⟩) (h:MQ P ats args=some (ro,xl)) (hx:xs P ro (xl.map ρ) m K):Gh P o ρ m K:=by
 intro w hw
 unfold MQ at h
 split at h
 case h_2=>cases h
 rename_i e hu
 split at h
 ·rename_i e' hu'
  obtain ⟨i,hi,h⟩:=Option.bind_eq_some_iff.1 h
  obtain ⟨z,hz,h⟩:=Option.bind_eq_some_iff.1 h
  split at h
  case isFalse=>cases h
  rename_i hsz
  obtain ⟨rfl,rfl⟩:=qJ h
  obtain ⟨t,ht,hu⟩:=Option.bind_eq_some_iff.1 hu
  obtain ⟨t',ht',hu'⟩:=Option.bind_eq_some_iff.1 hu'
  match args,hx with
  | [x,y],hx =>
   obtain ⟨base,n,cap,hxv,hx⟩:=bU hx
   obtain ⟨b,k,cc,hyv,news,hnews,hx⟩:=bU hx
   have:=DY (P:=P) (w:=w) (t:=t) (e:=e) hu hi hz hsz.1 hsz.2 (news:=news) (y:=.slice b k cc) (k:=k) rfl (fun w hw=>by
    cases b with
    | none=>simp only [ldS,Option.some.injEq] at hnews;subst hnews;simp [Builtin.firstCells]
    | some b=>simp only [ldS] at hnews;simp [Builtin.firstCells,loadCells,run_loadCellsFrom hw b _ 0 _ _ hnews]) (at1:=t') ht ht' hu' (.inr ⟨_,rfl⟩) (ty:=o.type) hw hx
   obtain ⟨v',w',hr,hs,hk⟩:=this
   have hr':(execOp ρ o).run P w=.ok (.value v') w':=by
    simp only [execOp,ho,resolve,List.map_toArray,List.map_cons,List.map_nil,Sem.run_bind,Sem.run_pure,Result.andThen_ok,invoke,builtin,hxv,hyv,hr]
   rw [hr'];exact ⟨hs,hk⟩
  | [],hx=>exact hx.elim
  | [_],hx=>exact hx.elim
  | _::_::_::_,hx=>exact hx.elim
 ·rename_i hu'
  obtain ⟨i,hi,h⟩:=Option.bind_eq_some_iff.1 h
  split at h
  case isFalse=>cases h
  rename_i hsz
  obtain ⟨rfl,rfl⟩:=qJ h
  obtain ⟨t,ht,hu⟩:=Option.bind_eq_some_iff.1 hu
  obtain ⟨t',ht',hu'⟩:=Option.bind_eq_some_iff.1 hu'
  have hz:i.zero=some (.int .u8 0):=by
   have:=hsz.2.2
   unfold isU8 at this
   split at this
   ·assumption
   ·cases this
  match args,hx with
  | [x,y],hx =>
   obtain ⟨base,n,cap,hxv,hx⟩:=bU hx
   obtain ⟨s,hyv,hx⟩:=Td hx
   have:=DY (P:=P) (w:=w) (t:=t) (e:=e) hu hi hz (by rw [hsz.1];rfl) (by rw [hsz.1];omega) (news:=s.data.toList.map fun c=>.int .u8 c.toNat) (y:=.string s) (k:=s.size) rfl (fun w _=>by
    have:s.extract 0 s.size=s:=by simp
    simp only [Builtin.firstCells,this,Sem.run_pure]
    congr 1
    apply Array.ext'
    simp) (at1:=t') ht ht' hu' (.inl rfl) (ty:=o.type) hw (by rw [hsz.1,hsz.2.1];exact hx)
   obtain ⟨v',w',hr,hs,hk⟩:=this
   have hr':(execOp ρ o).run P w=.ok (.value v') w':=by
    simp only [execOp,ho,resolve,List.map_toArray,List.map_cons,List.map_nil,Sem.run_bind,Sem.run_pure,Result.andThen_ok,invoke,builtin,hxv,hyv,hr]
   rw [hr'];exact ⟨hs,hk⟩
  | [],hx=>exact hx.elim
  | [_],hx=>exact hx.elim
  | _::_::_::_,hx=>exact hx.elim
 ·rename_i hu'
  obtain ⟨i,hi,h⟩:=Option.bind_eq_some_iff.1 h
  obtain ⟨z,hz,h⟩:=Option.bind_eq_some_iff.1 h
  split at h
  case isFalse=>cases h
  rename_i hsz
  obtain ⟨rfl,rfl⟩:=qJ h
  obtain ⟨t,ht,hu⟩:=Option.bind_eq_some_iff.1 hu
  obtain ⟨t',ht',hu'⟩:=Option.bind_eq_some_iff.1 hu'
  match args,hx with
  | [x,y],hx =>
   obtain ⟨base,n,cap,hxv,hx⟩:=bU hx
   obtain ⟨k,hyv,h0,hk,hx⟩:=NW hx
   obtain ⟨v',w',hr,hs,hk⟩:=Pj (P:=P) (w:=w) (t:=t) (e:=e) hu hi hz hsz.1 hsz.2 h0 hk ht ht' hu' (ty:=o.type) hw hx
   have hr':(execOp ρ o).run P w=.ok (.value v') w':=by
    simp only [execOp,ho,resolve,List.map_toArray,List.map_cons,List.map_nil,Sem.run_bind,Sem.run_pure,Result.andThen_ok,invoke,builtin,hxv,hyv,hr]
   rw [hr'];exact ⟨hs,hk⟩
  | [],hx=>exact hx.elim
  | [_],hx=>exact hx.elim
  | _::_::_::_,hx=>exact hx.elim
 ·cases h
theorem qKp {o:Oper} {args:List Operand} {ats:Array TypeId} (ho:o.op=.call ⟨.builtin .copy,⟨args⟩,ats⟩) (h:Cl P ats args=some (ro,xl)) (hx:xs P ro (xl.map ρ) m K):Gh P o ρ m K:=by
 intro w hw
 unfold Cl at h
 split at h
 case h_2=>cases h
 rename_i e hu
 obtain ⟨i,hi,h⟩:=Option.map_eq_some_iff.1 h
 obtain ⟨rfl,rfl⟩:=Prod.mk.injEq ..▸h
 obtain ⟨t,ht,hu⟩:=Option.bind_eq_some_iff.1 hu
 match args,hx with
 | [x,y],hx =>
  obtain ⟨base,n,cap,hxv,hx⟩:=bU hx
  obtain ⟨b,k,cc,hyv,cells,hcells,hx⟩:=bU hx
  have hfirst:(Builtin.firstCells i.size (min k n) (.slice b k cc)).run P w=.ok cells.toArray w:=by
   cases b with
   | none=>simp only [ldS,Option.some.injEq] at hcells;subst hcells;simp [Builtin.firstCells]
   | some b=>simp only [ldS] at hcells;simp [Builtin.firstCells,loadCells,run_loadCellsFrom hw b _ 0 _ _ hcells]
  have hmin:k.min n=min k n:=rfl
  cases base with
  | none =>
   have hr':(execOp ρ o).run P w=.ok (.value (.int .i64 (min k n:Nat))) w:=by
    simp [execOp,ho,resolve,invoke,builtin,hxv,hyv,Builtin.copy_,ht,qk hu,Builtin.lenOf,qn hi,hmin,hfirst,goInt]
   rw [hr'];exact ⟨jn.oU w,by rw [hw];exact hx⟩
  | some a =>
   obtain ⟨m',hst,hk⟩:=hx
   subst hw
   obtain ⟨w',hrs,he,hs⟩:=xo (P:=P) a cells 0 w m' hst
   have hr':(execOp ρ o).run P w=.ok (.value (.int .i64 (min k n:Nat))) w':=by
    simp [execOp,ho,resolve,invoke,builtin,hxv,hyv,Builtin.copy_,ht,qk hu,Builtin.lenOf,qn hi,hmin,hfirst,goInt,hrs]
   rw [hr'];exact ⟨hs,by rw [he];exact hk⟩
 | [],hx=>exact hx.elim
 | [_],hx=>exact hx.elim
 | _::_::_::_,hx=>exact hx.elim
theorem run_setObj_map {r:Nat} {es:Array MapEntry} {c:Nat} {o:Obj} (h:qO w r=some (.map es c)):(setObj r o).run P w=.ok () { w with heap:=w.heap.setIfInBounds r o }∧qO { w with heap:=w.heap.setIfInBounds r o }=(qO w).set r o∧jn w { w with heap:=w.heap.setIfInBounds r o }:=by
 have h':w.heap[r]?=some (.map es c):=h
 refine ⟨by simp [setObj,Sem.run,h'],?_,⟨rfl,rfl,by simp,rfl,Nat.le_refl _⟩⟩
 funext x
 simp only [qO,Mem.set,Array.getElem?_setIfInBounds]
 by_cases e:x=r
 ·subst e
  have hlt:x < w.heap.size:=(Array.getElem?_eq_some_iff.1 h').1
  simp [hlt]
 ·have:r≠x:=fun h=>e h.symm
  simp [e,this]
theorem Bj {r:Nat} {mm:Option Nat} {a b:Nat} {s:Array Nat} {o:Obj} (h:qO w r=some (.mapIter mm a s b)):(setObj r o).run P w=.ok () { w with heap:=w.heap.setIfInBounds r o }∧qO { w with heap:=w.heap.setIfInBounds r o }=(qO w).set r o∧jn w { w with heap:=w.heap.setIfInBounds r o }:=by
 have h':w.heap[r]?=some (.mapIter mm a s b):=h
 refine ⟨by simp [setObj,Sem.run,h'],?_,⟨rfl,rfl,by simp,rfl,Nat.le_refl _⟩⟩
 funext x
 simp only [qO,Mem.set,Array.getElem?_setIfInBounds]
 by_cases e:x=r
 ·subst e
  have hlt:x < w.heap.size:=(Array.getElem?_eq_some_iff.1 h').1
  simp [hlt]
 ·have:r≠x:=fun h=>e h.symm
  simp [e,this]
theorem Bx {r:Nat} {mm:Option Nat} {a b:Nat} {s:Array Nat} (h:qO w r=some (.mapIter mm a s b)):(getObj r).run P w=.ok (.mapIter mm a s b) w:=by
 have h':w.heap[r]?=some (.mapIter mm a s b):=h
 simp [getObj,Sem.run,h']
theorem qwa {o:Oper} {args:List Operand} {ats:Array TypeId} (ho:o.op=.call ⟨.builtin .delete,⟨args⟩,ats⟩) (h:fT P ats args=some (ro,xl)) (hx:xs P ro (xl.map ρ) m K):Gh P o ρ m K:=by
 intro w hw
 subst hw
 unfold fT at h
 obtain ⟨⟨ag,ks,e⟩,hk,h⟩:=Option.map_eq_some_iff.1 h
 obtain ⟨rfl,rfl⟩:=Prod.mk.injEq ..▸h
 obtain ⟨t,ht,hk⟩:=Option.bind_eq_some_iff.1 hk
 unfold mY at hk
 split at hk
 case h_2=>cases hk
 rename_i k e' hu
 obtain ⟨ks',hl,hk⟩:=Option.map_eq_some_iff.1 hk
 simp only [Prod.mk.injEq] at hk
 obtain ⟨rfl,rfl,rfl⟩:=hk
 match args,hx with
 | [x,y],hx =>
  obtain ⟨r,hr,hx⟩:=Eh hx
  cases r with
  | none =>
   obtain ⟨hok,hK⟩:=hx
   have h1:=aY (w:=w) (em:=true) hl hok
   have:(execOp ρ o).run P w=.ok (.value (.tuple #[])) w:=by
    simp [execOp,ho,resolve,invoke,builtin,Builtin.delete_,ht,qk hu,hr,h1]
   rw [this];exact ⟨jn.oU w,hK⟩
  | some r =>
   obtain ⟨hok,es,clock,hm,f,hf,hK⟩:=hx
   have h1:=aY (w:=w) (em:=es.isEmpty) hl hok
   have h2:=ow (w:=w) hl (Vh hok).1 hf
   cases f with
   | none =>
    obtain ⟨s1,s2,s3⟩:=run_setObj_map (P:=P) (o:=.map es clock) hm
    have:(execOp ρ o).run P w=.ok (.value (.tuple #[])) { w with heap:=w.heap.setIfInBounds r (.map es clock) }:=by
     simp [execOp,ho,resolve,invoke,builtin,Builtin.delete_,ht,qk hu,hr,h1,h2,run_getObj_map hm,s1]
    rw [this];exact ⟨s3,by rw [s2];exact hK⟩
   | some iv =>
    obtain ⟨i,v⟩:=iv
    obtain ⟨s1,s2,s3⟩:=run_setObj_map (P:=P) (o:=.map (es.eraseIdxIfInBounds i) clock) hm
    have:(execOp ρ o).run P w=.ok (.value (.tuple #[])) { w with heap:=w.heap.setIfInBounds r (.map (es.eraseIdxIfInBounds i) clock) }:=by
     simp [execOp,ho,resolve,invoke,builtin,Builtin.delete_,ht,qk hu,hr,h1,h2,run_getObj_map hm,s1]
    rw [this];exact ⟨s3,by rw [s2];exact hK⟩
 | [],hx=>exact hx.elim
 | [_],hx=>exact hx.elim
 | _::_::_::_,hx=>exact hx.elim
theorem qZl {o:Oper} {args:List Operand} {ats:Array TypeId} (ho:o.op=.call ⟨.builtin .clear,⟨args⟩,ats⟩) (h:pz P ats args=some (ro,xl)) (hx:xs P ro (xl.map ρ) m K):Gh P o ρ m K:=by
 intro w hw
 subst hw
 unfold pz at h
 split at h
 ·rename_i e hu
  obtain ⟨z,hz,h⟩:=Option.map_eq_some_iff.1 h
  obtain ⟨rfl,rfl⟩:=Prod.mk.injEq ..▸h
  obtain ⟨t,ht,hu⟩:=Option.bind_eq_some_iff.1 hu
  unfold zeroOf at hz
  obtain ⟨inf,hi,hz⟩:=Option.bind_eq_some_iff.1 hz
  obtain ⟨z',hz',rfl⟩:=Option.map_eq_some_iff.1 hz
  match args,hx with
  | [x],hx =>
   obtain ⟨a,n,c,hv,hx⟩:=bU hx
   cases a with
   | none =>
    have:(execOp ρ o).run P w=.ok (.value (.tuple #[])) w:=by
     simp [execOp,ho,resolve,invoke,builtin,Builtin.clear_,ht,qk hu,hv]
    rw [this];exact ⟨jn.oU w,hx⟩
   | some a =>
    obtain ⟨m',hst,hK⟩:=hx
    by_cases hn:n=0
    ·subst hn
     simp only [List.replicate_zero,List.flatten_nil,zT,Option.some.injEq] at hst
     have:(execOp ρ o).run P w=.ok (.value (.tuple #[])) w:=by
      simp [execOp,ho,resolve,invoke,builtin,Builtin.clear_,ht,qk hu,hv]
     rw [this];exact ⟨jn.oU w,by rw [hst];exact hK⟩
    ·obtain ⟨w',hrs,he,hs⟩:=xo (P:=P) a _ 0 w m' hst
     have hz0:(zeroValue e).run P w=.ok z' w:=xn hi hz'
     have hzc:(Builtin.zeroCells z'.cells n).toList=(List.replicate n z'.cells.toList).flatten:=by rw [VW]
     rw [← hzc] at hrs
     have:(execOp ρ o).run P w=.ok (.value (.tuple #[])) w':=by
      simp [execOp,ho,resolve,invoke,builtin,Builtin.clear_,ht,qk hu,hv,hn,hz0,hrs]
     rw [this];exact ⟨hs,by rw [he];exact hK⟩
  | [],hx=>exact hx.elim
  | _::_::_,hx=>exact hx.elim
 ·rename_i k e hu
  obtain ⟨rfl,rfl⟩:=qJ h
  obtain ⟨t,ht,hu⟩:=Option.bind_eq_some_iff.1 hu
  match args,hx with
  | [x],hx =>
   obtain ⟨r,hv,hx⟩:=Eh hx
   cases r with
   | none =>
    have:(execOp ρ o).run P w=.ok (.value (.tuple #[])) w:=by
     simp [execOp,ho,resolve,invoke,builtin,Builtin.clear_,ht,qk hu,hv]
    rw [this];exact ⟨jn.oU w,hx⟩
   | some r =>
    obtain ⟨es,clock,hm,hK⟩:=hx
    obtain ⟨s1,s2,s3⟩:=run_setObj_map (P:=P) (o:=.map #[] clock) hm
    have:(execOp ρ o).run P w=.ok (.value (.tuple #[])) { w with heap:=w.heap.setIfInBounds r (.map #[] clock) }:=by
     simp [execOp,ho,resolve,invoke,builtin,Builtin.clear_,ht,qk hu,hv,run_getObj_map hm,s1]
    rw [this];exact ⟨s3,by rw [s2];exact hK⟩
  | [],hx=>exact hx.elim
  | _::_::_,hx=>exact hx.elim
 ·cases h
theorem qKs {o:Oper} {c:Call} (ho:o.op=.call c) (h:pj P c c.args.toList=some (ro,xl)) (hx:xs P ro (xl.map ρ) m K) (hq:ro.quiet=false) (hρ:∀ f,ρ (.func f)=.func (.func f) #[] #[]):Gh P o ρ m K:=by
 obtain ⟨callee,args,argTypes⟩:=c
 obtain ⟨args⟩:=args
 simp only [pj] at h
 cases callee with
 | invoke r n=>cases h
 | value f =>
  intro w hw
  simp only [TN] at h
  cases f with
  | func f =>
   simp only at h
   obtain ⟨fn,hf,h⟩:=Option.bind_eq_some_iff.1 h
   split at h
   ·rename_i hb
    obtain ⟨rfl,rfl⟩:=qJ h
    simp only [Bool.and_eq_true] at hb
    have hname:fn.name ≠ "runtime.NumGoroutine" := by simpa using hb.2
    have hbody:fn.body≠none:=by intro hh;simp [hh] at hb
    have hc:=hx w hw
    have hr:(execOp ρ o).run P w=.ok (.enter f (args.map ρ).toArray) w:=by
     simp [execOp,ho,resolve,hρ,Deferred.ofValue,invoke,callFunc,hf,hname,hbody]
    rw [hr]
    exact ⟨jn.oU w,hc⟩
   ·split at h
    ·obtain ⟨rfl,rfl⟩:=qJ h;simp [RO.quiet] at hq
    ·split at h
     ·obtain ⟨s,_,h⟩:=Option.map_eq_some_iff.1 h
      obtain ⟨rfl,rfl⟩:=Prod.mk.injEq ..▸h;simp [RO.quiet] at hq
     ·cases h
  | tmp t =>
   obtain ⟨rfl,rfl⟩:=qJ h
   have hx:fP (fun f first captured=>Ks P f=true∧MC P f (first++args.map ρ++captured) m K) (ρ (.tmp t)):=hx
   obtain ⟨g,first,captured,hv,hcall,hx⟩:=qwx hx
   unfold Ks at hcall
   split at hcall
   ·rename_i fn hf
    simp only [Bool.and_eq_true] at hcall
    have hname:fn.name ≠ "runtime.NumGoroutine" := by simpa using hcall.2
    have hbody:fn.body≠none:=by intro hh;simp [hh] at hcall
    have hc:=hx w hw
    have e:(first.toList++args.map ρ++captured.toList).toArray=first++(args.map ρ).toArray++captured:=by
     apply Array.ext';simp
    have hr:(execOp ρ o).run P w=.ok (.enter g (first++(args.map ρ).toArray++captured)) w:=by
     simp [execOp,ho,resolve,hv,Deferred.ofValue,invoke,callFunc,hf,hname,hbody]
    rw [hr,← e]
    exact ⟨jn.oU w,hc⟩
   ·cases hcall
  | _=>cases h
 | builtin b =>
  simp only [ma] at h
  split at h
  ·unfold Mk at h
   split at h<;>first | (cases h;done) | (obtain ⟨rfl,rfl⟩:=qJ h;simp [RO.quiet] at hq)
  ·exact qwG ho h hx
  ·exact qKp ho h hx
  ·obtain ⟨rfl,rfl⟩:=qJ h;simp [RO.quiet] at hq
  ·obtain ⟨rfl,rfl⟩:=qJ h;simp [RO.quiet] at hq
  ·exact qwa ho h hx
  ·exact qZl ho h hx
  ·unfold Mw at h
   split at h<;>first | (cases h;done) | (obtain ⟨rfl,rfl⟩:=qJ h;simp [RO.quiet] at hq)
  ·cases h
theorem OH {t:TypeId} {a k x:Operand} {n:Sem Next} (h:(mY P t).map (fun z=>(RO.mup z.1 z.2.1,[a,k,x]))=some (ro,xl)) (hx:xs P ro (xl.map ρ) m K)
  (hn:∀ w:World,n.run P w=((Instr.mapUpdate t (ρ a) (ρ k) (ρ x)).run P w).andThen fun _ w'=>.ok .skip w'):∀ w,qO w=m→qjK P w K (n.run P w):=by
 intro w hw
 subst hw
 obtain ⟨⟨ag,ks,e⟩,hk,h⟩:=Option.map_eq_some_iff.1 h
 obtain ⟨rfl,rfl⟩:=Prod.mk.injEq ..▸h
 unfold mY at hk
 split at hk
 case h_2=>cases hk
 rename_i kt e' hu
 obtain ⟨ks',hl,hk⟩:=Option.map_eq_some_iff.1 hk
 simp only [Prod.mk.injEq] at hk
 obtain ⟨rfl,rfl,rfl⟩:=hk
 obtain ⟨r,hv,b,rfl,hok,es,clock,hm,f,hf,hK⟩:=Eh hx
 have h1:=aY (w:=w) (em:=false) hl hok
 have h2:=ow (w:=w) hl (Vh hok).1 hf
 have h3:=qkr (P:=P) (w:=w) hok
 rw [hn]
 cases f with
 | none =>
  obtain ⟨s1,s2,s3⟩:=run_setObj_map (P:=P) (o:=.map (es.push { key:=ρ k,val:=ρ x,born:=clock }) (clock+1)) hm
  have:(Instr.mapUpdate t (ρ a) (ρ k) (ρ x)).run P w=.ok () { w with heap:=w.heap.setIfInBounds b (.map (es.push { key:=ρ k,val:=ρ x,born:=clock }) (clock+1)) }:=by
   simp [Instr.mapUpdate,qk hu,hv,run_getObj_map hm,h1,h2,s1]
  rw [this];exact ⟨s3,by rw [s2];exact hK⟩
 | some iv =>
  obtain ⟨i,v⟩:=iv
  obtain ⟨n0,e0,hn0,he0,hke,_⟩:=RX (Vh hok).1 hf
  have hi:(es[i]?).map (·.key)=some (ρ k):=by
   rw [Nat.zero_add] at hn0
   subst hn0
   rw [← Array.getElem?_toList,he0];simp [hke]
  obtain ⟨s1,s2,s3⟩:=run_setObj_map (P:=P) (o:=.map (es.modify i fun e=>{ e with key:=ρ k,val:=ρ x }) clock) hm
  have:(Instr.mapUpdate t (ρ a) (ρ k) (ρ x)).run P w=.ok () { w with heap:=w.heap.setIfInBounds b (.map (es.modify i fun e=>{ e with key:=ρ k,val:=ρ x }) clock) }:=by
   simp [Instr.mapUpdate,qk hu,hv,run_getObj_map hm,h1,h2,hi,h3,s1,-Option.getD_map]
  rw [this];exact ⟨s3,by rw [s2];exact hK⟩
def tz (since:Nat) (seen:Array Nat) (es:Array MapEntry):Array (Option MapEntry) :=
 (if ((es.filter fun e=>!seen.contains e.born).filter fun e=>decide (e.born < since)).isEmpty then #[none] else #[]) ++
  (((es.filter fun e=>!seen.contains e.born).filter fun e=>decide (e.born < since))++((es.filter fun e=>!seen.contains e.born).filter fun e=>decide (e.born≥since))).map some
theorem qxL (since:Nat) (seen:Array Nat) (es:Array MapEntry):0 < (tz since seen es).size:=by
 unfold tz
 generalize (es.filter fun e=>!seen.contains e.born).filter (fun e=>decide (e.born < since))=old
 by_cases ho:old.isEmpty=true
 ·simp only [ho,if_true,Array.size_append];simp;omega
 ·have:0 < old.size:=by
   rcases Nat.eq_zero_or_pos old.size with h | h
   ·exact absurd (by simpa [Array.isEmpty_iff_size_eq_zero] using h) ho
   ·exact h
  simp only [Array.size_append,Array.size_map];omega
theorem qqD {since:Nat} {seen:Array Nat} {es:Array MapEntry} (h:none∈tz since seen es):∀ e∈es.toList,seen.contains e.born=false→¬ e.born < since:=by
 intro e he hs hlt
 unfold tz at h
 simp only [Array.mem_append,Array.mem_map,reduceCtorEq,and_false,exists_false,or_false] at h
 split at h
 ·rename_i ho
  have:e∈(es.filter fun e=>!seen.contains e.born).filter fun e=>decide (e.born < since):=by
   simp only [Array.mem_filter,decide_eq_true_eq,Bool.not_eq_true']
   exact ⟨⟨Array.mem_toList_iff.1 he,hs⟩,hlt⟩
  rw [Array.isEmpty_iff.1 ho] at this
  simp at this
 ·simp at h
theorem qqC {since:Nat} {seen:Array Nat} {es:Array MapEntry} {e:MapEntry} (h:some e∈tz since seen es):e∈es.toList∧seen.contains e.born=false:=by
 unfold tz at h
 simp only [Array.mem_append,Array.mem_map,Option.some.injEq,exists_eq_right,Array.mem_filter,Bool.not_eq_true'] at h
 rcases h with h | h | h
 ·split at h<;>simp at h
 ·exact ⟨Array.mem_toList_iff.2 h.1.1,h.1.2⟩
 ·exact ⟨Array.mem_toList_iff.2 h.1.1,h.1.2⟩
theorem qvh {b mb since last clock:Nat} {seen:Array Nat} {es:Array MapEntry} {s:Option Nat} {ty:TypeId} (hg:(getObj b).run P w=.ok (.mapIter (some mb) since seen last) w) (hgm:(getObj mb).run P w=.ok (.map es clock) w)
  (hbad:(!seen.isEmpty && !es.isEmpty && es.all (fun x=>decide (x.born≥last)))=false) :
  (Instr.next (.pointer (some ⟨b,0,s⟩)) false ty).run P w=((choose (.mapNext (tz since seen es).size)).run P w).andThen fun i w' =>
   (match (tz since seen es)[i]? with
    | some (some e)=>do
     setObj b (.mapIter (some mb) since (seen.push e.born) clock)
     pure (.tuple #[.bool true,e.key,e.val])
    | some none=>pure (.tuple #[.bool false])
    | none=>stuck "Next: no such candidate":Sem Value).run P w':=by
 simp only [Instr.next,Sem.run_bind,hg,Result.andThen_ok,hgm,hbad,Bool.false_eq_true,if_false]
 rfl
theorem qXE {it:Operand} {dst:Option Tmp} {type:TypeId} {pos:String} {after:Array Edge} {guard:Option (Nat×Bool)} {a:Addr} (hv:ρ it=.pointer (some a)) (hx:qQK (qO w) K a) :
  qjK P w K ((execOp ρ { dst:=dst,op:=Op.next it false,type:=type,pos:=pos,after:=after,guard:=guard }).run P w):=by
 obtain ⟨b,o,s⟩:=a
 obtain ⟨ho,r,since,seen,last,hb,hx⟩:=hx
 simp only at ho hb
 subst ho
 have hg:=Bx (P:=P) hb
 cases r with
 | none =>
  have:(execOp ρ { dst:=dst,op:=Op.next it false,type:=type,pos:=pos,after:=after,guard:=guard }).run P w=.ok (.value (.tuple #[.bool false])) w:=by
   simp [execOp,Instr.next,hv,hg]
  rw [this];exact ⟨jn.oU w,hx⟩
 | some mb =>
  obtain ⟨es,clock,hm,hbad,hover,hone⟩:=hx
  have hgm:=run_getObj_map (P:=P) hm
  have hbad':(!seen.isEmpty && !es.isEmpty && es.all (fun x=>decide (x.born≥last)))=false:=hbad
  have hrun:=qvh (P:=P) (w:=w) (s:=s) (ty:=type) hg hgm hbad'
  generalize hcand:tz since seen es=cand at hrun
  have hcs:0 < cand.size:=by
   rw [← hcand];exact qxL _ _ _
  obtain ⟨i,w1,hch,hi,hw1,hs1⟩:∃ i w1,(choose (.mapNext cand.size)).run P w=.ok i w1∧i < cand.size∧qO w1=qO w∧jn w w1:=by
   by_cases hf:cand.size≤1
   ·exact ⟨0,w,by simp [Question.forced,hf],hcs,rfl,jn.oU w⟩
   ·exact ⟨(w.tape w.drawn (.mapNext cand.size)) % cand.size,{ w with drawn:=w.drawn+1 },by simp [Question.forced,hf,Question.cut],Nat.mod_lt _ hcs,rfl,IF w _ (Nat.le_succ _)⟩
  have hci:=Array.getElem?_eq_getElem hi
  have hex:(execOp ρ { dst:=dst,op:=Op.next it false,type:=type,pos:=pos,after:=after,guard:=guard }).run P w =
    ((Instr.next (.pointer (some ⟨b,0,s⟩)) false type).run P w).andThen fun v w'=>.ok (.value v) w':=by
   simp only [execOp,hv,Sem.run_bind,Sem.run_pure]
  rw [hex,hrun,hch]
  simp only [Result.andThen_ok,hci]
  cases hcv:cand[i] with
  | none =>
   simp only [Sem.run_pure,Result.andThen_ok]
   refine ⟨hs1,?_⟩
   rw [hw1]
   apply hover
   have hm0:=Array.getElem_mem hi
   rw [hcv,← hcand] at hm0
   exact qqD hm0
  | some e =>
   have hmem:e∈es.toList∧seen.contains e.born=false:=by
    have hm0:=Array.getElem_mem hi
    rw [hcv,← hcand] at hm0
    exact qqC hm0
   have hb1:qO w1 b=some (.mapIter (some mb) since seen last):=by rw [hw1];exact hb
   obtain ⟨s1,s2,s3⟩:=Bj (P:=P) (o:=.mapIter (some mb) since (seen.push e.born) clock) hb1
   simp only [Sem.run_bind,s1,Result.andThen_ok,Sem.run_pure]
   refine ⟨hs1.trans s3,?_⟩
   rw [s2,hw1]
   exact hone e hmem.1 hmem.2
theorem qZO {o:Oper} (h:qz P o=some (ro,xl)) (hq:ro.quiet=false) (hx:xs P ro (xl.map ρ) m K) (hρ:∀ f,ρ (.func f)=.func (.func f) #[] #[]):Gh P o ρ m K:=by
  have h0:=IH h
  clear h
  rcases h0 with h | h
  case inr=>cases h;simp [xs] at hx
  obtain ⟨dst,op,type,pos,after,guard⟩:=o
  cases op<;>simp only [qkP,reduceCtorEq] at h
  case call c=>exact qKs rfl h hx hq hρ
  case makeInterface xt x =>
    split at h
    · cases h
    · obtain ⟨rfl,rfl⟩:=qJ h;simp [RO.quiet] at hq
  case binOp op t x y u =>
    unfold Cm at h
    split at h
    · unfold qkO at h
      split at h
      case h_2=>cases h
      split at h<;>first | (cases h;done) | (obtain ⟨rfl,rfl⟩:=qJ h;simp [RO.quiet] at hq)
    unfold My at h
    split at h<;>first
      | (cases h;done)
      | (obtain ⟨rfl,rfl⟩:=qJ h;simp [RO.quiet] at hq;done)
      | (unfold Dd at h
         split at h
         · obtain ⟨rfl,rfl⟩:=qJ h;simp [RO.quiet] at hq
         · split at h
           · split at h
             · cases h
             · obtain ⟨rfl,rfl⟩:=qJ h;simp [RO.quiet] at hq
           · cases h)
      | (split at h
         · cases h
         · obtain ⟨ks,hl,h⟩:=Option.map_eq_some_iff.1 h
           obtain ⟨rfl,rfl⟩:=Prod.mk.injEq ..▸h;simp [RO.quiet] at hq)
  case move x=>obtain ⟨rfl,rfl⟩:=qJ h;simp [RO.quiet] at hq
  case assign x=>obtain ⟨rfl,rfl⟩:=qJ h;simp [RO.quiet] at hq
  case pick c a b=>obtain ⟨rfl,rfl⟩:=qJ h;simp [RO.quiet] at hq
  case entry it=>obtain ⟨rfl,rfl⟩:=qJ h;simp [RO.quiet] at hq
  case nilCheck x=>obtain ⟨rfl,rfl⟩:=qJ h;simp [RO.quiet] at hq
  case fieldAddr s x f =>
    split at h
    · obtain ⟨fl,hf,h⟩:=Option.bind_eq_some_iff.1 h
      obtain ⟨i,hi,h⟩:=Option.bind_eq_some_iff.1 h
      split at h
      · cases h
      · obtain ⟨rfl,rfl⟩:=qJ h;simp [RO.quiet] at hq
    · cases h
  case indexAddr t x i =>
    split at h
    · obtain ⟨j,hj,h⟩:=Option.map_eq_some_iff.1 h
      obtain ⟨rfl,rfl⟩:=Prod.mk.injEq ..▸h;simp [RO.quiet] at hq
    · obtain ⟨j,hj,h⟩:=Option.map_eq_some_iff.1 h
      obtain ⟨rfl,rfl⟩:=Prod.mk.injEq ..▸h;simp [RO.quiet] at hq
    · cases h
  case load t x =>
    split at h
    · obtain ⟨rfl,rfl⟩:=qJ h;simp [RO.quiet] at hq
    · split at h
      · obtain ⟨i,hi,h⟩:=Option.map_eq_some_iff.1 h
        obtain ⟨rfl,rfl⟩:=Prod.mk.injEq ..▸h;simp [RO.quiet] at hq
      · cases h
  case store t a x =>
    obtain ⟨i,hi,h⟩:=Option.map_eq_some_iff.1 h
    obtain ⟨rfl,rfl⟩:=Prod.mk.injEq ..▸h
    intro w hw
    subst hw
    obtain ⟨a',ha,hsz,m',hst,hK⟩:=UZ hx
    obtain ⟨w',hr,e',s'⟩:=xo (P:=P) _ _ _ _ _ hst
    have:(execOp ρ { dst:=dst,op:=Op.store t a x,type:=type,pos:=pos,after:=after,guard:=guard }).run P w=.ok .skip w':=by
      simp [execOp,Instr.storeAt,ha,Instr.sureAddr,storeVar,qn hi,hsz,hr]
    rw [this]
    exact ⟨s',by rw [e'];exact hK⟩
  case alloc t =>
    obtain ⟨z,hz,h⟩:=Option.map_eq_some_iff.1 h
    obtain ⟨rfl,rfl⟩:=Prod.mk.injEq ..▸h
    unfold zeroOf at hz
    obtain ⟨i,hi,hz⟩:=Option.bind_eq_some_iff.1 hz
    obtain ⟨z',hz',rfl⟩:=Option.map_eq_some_iff.1 hz
    intro w hw
    subst hw
    simp only [List.map_nil,xs] at hx
    have:=hx w.heap.size (kV w)
    have hr:(execOp ρ { dst:=dst,op:=Op.alloc t,type:=type,pos:=pos,after:=after,guard:=guard }).run P w =
        .ok (.value (.pointer (some ⟨w.heap.size,0,none⟩))) { w with heap:=w.heap.push (.cells z'.cells t) }:=by
      simp [execOp,Instr.alloc,xn hi hz',newVar,newRow]
    rw [hr]
    exact ⟨fO _ _ _,by rw [yv];simpa using this⟩
  case box t x =>
    obtain ⟨rfl,rfl⟩:=qJ h
    intro w hw
    subst hw
    simp only [List.map_cons,List.map_nil,xs] at hx
    have:=hx w.heap.size (kV w)
    have hr:(execOp ρ { dst:=dst,op:=Op.box t x,type:=type,pos:=pos,after:=after,guard:=guard }).run P w =
        .ok (.value (.pointer (some ⟨w.heap.size,0,none⟩))) { w with heap:=w.heap.push (.cells (ρ x).cells t) }:=by
      simp [execOp,Instr.box,newVar,newRow]
    rw [hr]
    exact ⟨fO _ _ _,by rw [yv];exact this⟩
  case unOp op t x =>
    cases op<;>simp only [qkN,reduceCtorEq] at h
    · split at h
      · obtain ⟨rfl,rfl⟩:=qJ h;simp [RO.quiet] at hq
      · cases h
    · split at h
      · obtain ⟨rfl,rfl⟩:=qJ h;simp [RO.quiet] at hq
      · cases h
    · obtain ⟨rfl,rfl⟩:=qJ h;simp [RO.quiet] at hq
  case convert s d x =>
    split at h
    · obtain ⟨rfl,rfl⟩:=qJ h;simp [RO.quiet] at hq
    · obtain ⟨rfl,rfl⟩:=qJ h;simp [RO.quiet] at hq
    · split at h
      · obtain ⟨rfl,rfl⟩:=qJ h;simp [RO.quiet] at hq
      · cases h
    · rename_i e h1 h2
      split at h
      · rename_i he
        obtain ⟨rfl,rfl⟩:=qJ h
        intro w hw
        subst hw
        obtain ⟨z,hv,hx⟩:=Td hx
        have h8:P.underlying e=some (.int .u8):=he
        let q:=Question.appendCap z.size 0 e
        let nc:=q.cut (w.tape w.drawn q)
        have hnc:z.size≤nc:=by simp only [nc,q,Question.cut];omega
        have hcap:(choose q).run P w=.ok nc { w with drawn:=w.drawn+1 }:=by simp [q,nc,Question.forced]
        have hK:=hx nc w.heap.size hnc (kV w)
        have hcells:(z.data.map fun b=>Value.int .u8 b.toNat)++Array.replicate (nc - z.size) (Value.int .u8 0)=((z.data.toList.map fun (x:UInt8)=>Value.int .u8 x.toNat)++List.replicate (nc - z.size) (Value.int .u8 0)).toArray:=by
          apply Array.ext';simp
        have hsz:(((z.data.toList.map fun (x:UInt8)=>Value.int .u8 x.toNat)++List.replicate (nc - z.size) (Value.int .u8 0)).toArray).size=nc:=by
          have:z.data.toList.length=z.size:=rfl
          simp only [List.size_toArray,List.length_append,List.length_map,List.length_replicate,this];omega
        generalize hrow:((z.data.toList.map fun (x:UInt8)=>Value.int .u8 x.toNat)++List.replicate (nc - z.size) (Value.int .u8 0)).toArray=row at *
        let w1:World:={ w with drawn:=w.drawn+1,heap:=w.heap.push (.cells row e) }
        have hsh:w1.shape? w.heap.size=some (e,nc):=by
          have hp:w1.heap[w.heap.size]?=some (.cells row e):=Array.getElem?_push_size
          unfold World.shape?
          rw [hp]
          show some (e,row.size)=_
          rw [hsz]
        have hrun:(execOp ρ { dst:=dst,op:=Op.convert s d x,type:=type,pos:=pos,after:=after,guard:=guard }).run P w=.ok (.value (.slice (some ⟨w.heap.size,0,none⟩) z.size nc)) (w1.freeze ⟨w.heap.size,nc,none⟩ 1):=by
          simp only [execOp,hv,convert,Sem.run_bind,qk h1,qk h2,Result.andThen_ok,qk h8,Conv.stringToBytes]
          rw [show (choose (.appendCap z.size 0 e)).run P w=_ from hcap]
          simp only [Result.andThen_ok,newRow,Sem.run_bind,run_newObj,Sem.run_pure,hcells,markStringish,run_shape]
          rw [show ({ w with drawn:=w.drawn+1,heap:=w.heap.push (.cells row e) }:World).shape? w.heap.size=some (e,nc) from hsh]
          simp only [run_freeze,Result.andThen_ok]
          rfl
        rw [hrun]
        have hfr:qO (w1.freeze ⟨w.heap.size,nc,none⟩ 1)=(qO w).set w.heap.size (.cells row e (nc,nc+1)):=by
          funext b
          show (if (1:Nat)=0 then w1 else _).heap[b]?=_
          rw [if_neg (by decide)]
          simp only [qO,w1,Mem.set,Array.getElem?_modify]
          by_cases eb:b=w.heap.size
          · subst eb
            simp only [if_true,Array.getElem?_push_size,Option.map_some]
            rfl
          · have:w.heap.size≠b:=fun h=>eb h.symm
            simp only [eb,this,if_false,Array.getElem?_push]
        refine ⟨⟨rfl,rfl,by simp [World.freeze,w1],rfl,Nat.le_succ _⟩,?_⟩
        rw [hfr];exact hK
      · cases h
    · rename_i e0 e h1 h2
      split at h
      · rename_i he
        obtain ⟨rfl,rfl⟩:=qJ h
        simp only [Bool.and_eq_true,beq_iff_eq] at he
        obtain ⟨hsd,he⟩:=he
        subst hsd
        have h8:=qyZ he
        intro w hw
        subst hw
        obtain ⟨a,n,c,hv,hx⟩:=bU hx
        cases a with
        | none=>exact hx.elim
        | some a =>
          obtain ⟨arr,t,fr,hm,hfr,hK⟩:=hx
          have hm':w.heap[a.block]?=some (.cells arr t fr):=hm
          have hsh:w.shape? a.block=some (t,arr.size):=by unfold World.shape?;rw [hm']
          have hrun:(execOp ρ { dst:=dst,op:=Op.convert s s x,type:=type,pos:=pos,after:=after,guard:=guard }).run P w=.ok (.value (.slice (some a) n c)) (w.freeze ⟨a.block,arr.size,none⟩ 1):=by
            simp [execOp,hv,convert,qk h2,qk h8,markStringish,hsh]
          rw [hrun]
          have hfz:qO (w.freeze ⟨a.block,arr.size,none⟩ 1)=(qO w).set a.block (.cells arr t (arr.size,arr.size+1)):=by
            funext b
            show (if (1:Nat)=0 then w else _).heap[b]?=_
            rw [if_neg (by decide)]
            simp only [qO,Mem.set,Array.getElem?_modify]
            by_cases eb:b=a.block
            · subst eb
              simp only [if_true,hm',Option.map_some]
              rcases hfr with rfl | rfl
              · simp
              · simp
            · have:a.block≠b:=fun h=>eb h.symm
              simp only [eb,this,if_false]
          refine ⟨⟨rfl,rfl,by simp [World.freeze],rfl,Nat.le_refl _⟩,?_⟩
          rw [hfz];exact hK
      · cases h
    · cases h
  case field t x f =>
    split at h
    · obtain ⟨fl,hf,h⟩:=Option.bind_eq_some_iff.1 h
      split at h
      · obtain ⟨rfl,rfl⟩:=qJ h;simp [RO.quiet] at hq
      · split at h
        · obtain ⟨i,hi,h⟩:=Option.map_eq_some_iff.1 h
          obtain ⟨rfl,rfl⟩:=Prod.mk.injEq ..▸h;simp [RO.quiet] at hq
        · cases h
    · cases h
  case extract x i=>obtain ⟨rfl,rfl⟩:=qJ h;simp [RO.quiet] at hq
  case makeSlice t l c =>
    split at h
    · rename_i el hu
      obtain ⟨i,hi,h⟩:=Option.bind_eq_some_iff.1 h
      obtain ⟨z,hz,h⟩:=Option.bind_eq_some_iff.1 h
      split at h
      · rename_i hsz
        obtain ⟨rfl,rfl⟩:=qJ h
        intro w hw
        subst hw
        obtain ⟨n,hl,hx⟩:=NW hx
        obtain ⟨c',hc,h0,h1,h2,h3,hk⟩:=NW hx
        have:=hk w.heap.size (kV w)
        have wn:IntKind.i64.wrap n=n:=wrap_i64 (by omega) (by omega)
        have wc:IntKind.i64.wrap c'=c':=wrap_i64 (by omega) (by omega)
        have hr:(execOp ρ { dst:=dst,op:=Op.makeSlice t l c,type:=type,pos:=pos,after:=after,guard:=guard }).run P w =
            .ok (.value (.slice (some ⟨w.heap.size,0,none⟩) n.toNat c'.toNat)) { w with heap:=w.heap.push (.cells (List.replicate c'.toNat z.cells.toList).flatten.toArray el) }:=by
          have e1:¬ (c' < 0):=by omega
          have e2:¬ (281474976710656 < (i.bytes:Int)*c'):=by omega
          have e3:¬ (n < 0):=by omega
          have e4:¬ (c' < n):=by omega
          have e5:(zeroValue el).run P w=.ok z w:=xn hi hz
          have e6:=cK z.cells c'.toNat (by omega)
          by_cases hc0:c'=0
          · subst hc0
            simp [execOp,Instr.makeSlice,qk hu,hl,hc,asInt,asIntOf,za hi,wn,wc,e3,e4,newRow,qn hi,Array.range]
            congr 2
            exact Array.eq_empty_of_size_eq_zero (by simp [wc])
          · have e7:c'.toNat≠0:=by omega
            have e8:i.size≠0:=by omega
            have e9:c'.toNat*i.size≠0:=Nat.mul_ne_zero e7 e8
            rw [hsz.1] at e6
            simp [execOp,Instr.makeSlice,qk hu,hl,hc,asInt,asIntOf,za hi,wn,wc,e1,e2,e3,e4,newRow,qn hi,e5,if_neg e9,hsz.1]
            congr 2
        rw [hr]
        exact ⟨fO _ _ _,by rw [yv];exact this⟩
      · cases h
    · cases h
  case build t parts =>
    unfold px at h
    obtain ⟨z,hz,h⟩:=Option.bind_eq_some_iff.1 h
    split at h
    · split at h
      · obtain ⟨ps,hps,h⟩:=Option.map_eq_some_iff.1 h
        obtain ⟨rfl,rfl⟩:=Prod.mk.injEq ..▸h;simp [RO.quiet] at hq
      · cases h
    · obtain ⟨ps,hps,h⟩:=Option.map_eq_some_iff.1 h
      obtain ⟨rfl,rfl⟩:=Prod.mk.injEq ..▸h;simp [RO.quiet] at hq
    · cases h
  case buildSlice t len parts =>
    unfold ae at h
    split at h
    case h_2=>cases h
    rename_i e hu
    obtain ⟨i,hi,h⟩:=Option.bind_eq_some_iff.1 h
    obtain ⟨z,hz,h⟩:=Option.bind_eq_some_iff.1 h
    split at h
    case isFalse=>cases h
    rename_i hsz
    obtain ⟨rfl,rfl⟩:=qJ h
    intro w hw
    subst hw
    obtain ⟨l,hl,hk⟩:=hx
    have:=hk w.heap.size (kV w)
    have hcells:(Array.range (len*i.size)).map (fun j=>z.cells[j % z.cells.size]!)=(List.replicate len z.cells.toList).flatten.toArray:=by
      rw [← hsz.1];exact cK z.cells len (by omega)
    have hfill:=rG (fun j=>some (j*i.size,i.size)) (parts.toList.map fun (j,x)=>(j,ρ x)) (parts.toList.map fun p=>(p.1*i.size,i.size)) (List.replicate len z.cells.toList).flatten.toArray l
      (by simp [List.map_map]) (by rw [List.map_map];rw [List.map_map] at hl;exact hl)
    have hz':=xn (P:=P) (w:=w) hi hz
    have hr:(execOp ρ { dst:=dst,op:=Op.buildSlice t len parts,type:=type,pos:=pos,after:=after,guard:=guard }).run P w =
        .ok (.value (.slice (some ⟨w.heap.size,0,none⟩) len len)) { w with heap:=w.heap.push (.cells l.toArray e) }:=by
      obtain ⟨parts⟩:=parts
      simp only at hfill
      have h16:¬ (16777216 < len*i.size):=by omega
      by_cases hz0:len*i.size=0
      · have hl0:len=0:=by
          rcases Nat.mul_eq_zero.1 hz0 with h | h
          · exact h
          · omega
        subst hl0
        have:(List.replicate 0 z.cells.toList).flatten.toArray=(#[]:Array Value):=by simp
        rw [this] at hfill
        have h0r:Array.range 0=#[]:=rfl
        simp only [execOp,Instr.buildSlice,Sem.run_bind,qk hu,Result.andThen_ok,qn hi,Nat.zero_mul,if_true,Sem.run_pure,h0r,List.map_toArray,List.map_nil,hfill,newRow]
        rfl
      · simp only [execOp,Instr.buildSlice,Sem.run_bind,qk hu,Result.andThen_ok,qn hi,if_neg hz0,hz',Sem.run_pure,hcells,List.map_toArray,hfill,newRow,run_newObj,Nat.reducePow,h16,if_false]
    rw [hr]
    exact ⟨fO _ _ _,by rw [yv];exact this⟩
  case slice t x lo hi mx =>
    cases mx with
    | none =>
      simp only [Option.isNone_none,if_true,pq] at h
      split at h
      · obtain ⟨i,hi,h⟩:=Option.map_eq_some_iff.1 h
        obtain ⟨rfl,rfl⟩:=Prod.mk.injEq ..▸h;simp [RO.quiet] at hq
      · obtain ⟨rfl,rfl⟩:=qJ h;simp [RO.quiet] at hq
      · split at h
        · obtain ⟨i,hi,h⟩:=Option.map_eq_some_iff.1 h
          obtain ⟨rfl,rfl⟩:=Prod.mk.injEq ..▸h;simp [RO.quiet] at hq
        · cases h
      · cases h
    | some mx =>
      simp only [Option.isNone_some,Bool.false_eq_true,if_false,fR] at h
      split at h
      · obtain ⟨i,hi,h⟩:=Option.map_eq_some_iff.1 h
        obtain ⟨rfl,rfl⟩:=Prod.mk.injEq ..▸h;simp [RO.quiet] at hq
      · cases h
  case index t x i =>
    split at h
    · split at h
      · obtain ⟨j,hj,h⟩:=Option.map_eq_some_iff.1 h
        obtain ⟨rfl,rfl⟩:=Prod.mk.injEq ..▸h;simp [RO.quiet] at hq
      · split at h
        · obtain ⟨j,hj,h⟩:=Option.map_eq_some_iff.1 h
          obtain ⟨rfl,rfl⟩:=Prod.mk.injEq ..▸h;simp [RO.quiet] at hq
        · cases h
    · obtain ⟨rfl,rfl⟩:=qJ h;simp [RO.quiet] at hq
    · cases h
  case makeFunc fn first captured=>obtain ⟨rfl,rfl⟩:=qJ h;simp [RO.quiet] at hq
  case makeMap t r =>
    split at h
    · rename_i hr
      obtain ⟨rfl,rfl⟩:=qJ h
      have hr':r=none:=by simpa using hr
      subst hr'
      intro w hw
      subst hw
      simp only [List.map_nil,xs] at hx
      have:=hx w.heap.size (kV w)
      have hr:(execOp ρ { dst:=dst,op:=Op.makeMap t none,type:=type,pos:=pos,after:=after,guard:=guard }).run P w =
          .ok (.value (.map (some w.heap.size))) { w with heap:=w.heap.push (.map #[] 0) }:=by
        simp [execOp,Instr.makeMap]
      rw [hr]
      exact ⟨DK _ _,by rw [yv];exact this⟩
    · cases h
  case lookup t x i ok =>
    unfold fS at h
    obtain ⟨z,hz,h⟩:=Option.bind_eq_some_iff.1 h
    obtain ⟨z',hz',h⟩:=Option.map_eq_some_iff.1 h
    obtain ⟨rfl,rfl⟩:=Prod.mk.injEq ..▸h;simp [RO.quiet] at hq
  case mapUpdate t a k x =>
    refine fun w hw=>OH h hx (fun r=>?_) w hw
    simp [execOp]
  case insert t a k x =>
    refine fun w hw=>OH h hx (fun r=>?_) w hw
    simp [execOp]
  case range t x =>
    split at h
    · rename_i k e hu
      obtain ⟨rfl,rfl⟩:=qJ h
      intro w hw
      subst hw
      obtain ⟨r,hv,hx⟩:=Eh hx
      cases r with
      | none =>
        have:=hx w.heap.size (kV w)
        have hr:(execOp ρ { dst:=dst,op:=Op.range t x,type:=type,pos:=pos,after:=after,guard:=guard }).run P w =
            .ok (.value (.pointer (some ⟨w.heap.size,0,none⟩))) { w with heap:=w.heap.push (.mapIter none 0 #[] 0) }:=by
          simp [execOp,Instr.range,qk hu,hv]
        rw [hr]
        exact ⟨DK _ _,by rw [yv];exact this⟩
      | some b =>
        obtain ⟨es,clock,hm,hx⟩:=hx
        have:=hx w.heap.size (kV w)
        have hr:(execOp ρ { dst:=dst,op:=Op.range t x,type:=type,pos:=pos,after:=after,guard:=guard }).run P w =
            .ok (.value (.pointer (some ⟨w.heap.size,0,none⟩))) { w with heap:=w.heap.push (.mapIter (some b) clock #[] clock) }:=by
          simp [execOp,Instr.range,qk hu,hv,run_getObj_map hm]
        rw [hr]
        exact ⟨DK _ _,by rw [yv];exact this⟩
    · cases h
  case next it isS =>
    split at h
    · cases h
    · rename_i hs
      obtain ⟨rfl,rfl⟩:=qJ h
      intro w hw
      subst hw
      obtain ⟨a,hv,hx⟩:=UZ hx
      have hs':isS=false:=by simpa using hs
      subst hs'
      exact qXE (dst:=dst) (type:=type) (pos:=pos) (after:=after) (guard:=guard) hv hx
end sound
end Go.Fw
namespace Go.Fw
inductive X where
 | qq (t:Nat) | qz (i:Nat) | const (v:Value) | glob (g:Nat) | fn (f:Nat)
 deriving Inhabited
abbrev Env:=List (Nat×Value)
def Env.get:Env→Nat→Value
 | [],_=>undef
 | (j,v)::r,i=>if i=j then v else Env.get r i
def Env.has:Env→Nat→Bool
 | [],_=>false
 | (j,_)::r,i=>i == j || Env.has r i
def X.ev (L:Nat→Value) (σ:Env):X→Value
 | .qq t=>L t
 | .qz i=>σ.get i
 | .const v=>v
 | .glob g=>.pointer (some ⟨g,0,none⟩)
 | .fn f=>.func (.func f) #[] #[]
def asB:Value→Option Bool
 | .bool b=>some b
 | _=>none
abbrev Gd:=Option (X×Bool)
inductive ET where
 | out (outs:List (Nat×X))
 | fail
 | tt
 | q (i:Nat) (ro:RO) (args:List X) (g:Gd) (k:ET)
 | x (i:Nat) (ro:RO) (args:List X) (g:Gd) (rc:List (Nat×RO×List X×Gd)) (k:ET)
 | both (a b:ET)
 deriving Inhabited
def TQ (o:Option Value) (K:Value→Prop):Prop:=∃ v,o=some v∧K v
def gP (L:Nat→Value) (σ:Env) (g:Gd) (yes no:Prop):Prop :=
 match g with
 | none=>yes
 | some (x,want)=>(asB (x.ev L σ)=some want→yes)∧(asB (x.ev L σ)≠some want→no)
def rcP (L:Nat→Value) (σ:Env) (m:Mem):List (Nat×RO×List X×Gd)→Prop
 | []=>True
 | (i,ro,args,g)::r=>gP L σ g (rd ro (args.map (X.ev L σ)) m=some (σ.get i)) True∧rcP L σ m r
def etP (P:Program) (L:Nat→Value):ET→Env→Mem→(Env→Mem→Prop)→Prop
 | .out outs,σ,m,K=>K (outs.map fun p=>(p.1,p.2.ev L σ)) m
 | .fail,_,_,_=>False
 | .tt,_,_,_=>True
 | .q i ro args g k,σ,m,K=>gP L σ g (TQ (rd ro (args.map (X.ev L σ)) m) fun v=>etP P L k ((i,v)::σ) m K) (etP P L k ((i,undef)::σ) m K)
 | .x i ro args g rc k,σ,m,K =>
  gP L σ g (xs P ro (args.map (X.ev L σ)) m fun v m'=>rcP L ((i,v)::σ) m' rc∧etP P L k ((i,v)::σ) m' K) (etP P L k ((i,undef)::σ) m K)
 | .both a b,σ,m,K=>etP P L a σ m K∧etP P L b σ m K
def jd (ops:Array Oper) (k:Nat):Option Nat:=(ops[k]?).bind (·.dst)
def xu (ops:Array Oper) (t:Nat):Nat→Option Nat
 | 0=>none
 | k+1=>if jd ops k=some t then some k else xu ops t k
def XM (ops:Array Oper) (j:Nat):Option Operand :=
 match ops[j]? with
 | some o=>if o.guard.isNone then (match o.op with | .move x | .assign x=>some x | _=>none) else none
 | none=>none
def nx (ops:Array Oper):Nat→Nat→X
 | 0,j=>.qz j
 | f+1,j =>
  match XM ops j with
  | some (.tmp t)=>(match xu ops t j with | none=>.qq t | some k=>nx ops f k)
  | some (.const v)=>.const v
  | some (.global g)=>.glob g
  | some (.func g)=>.fn g
  | none=>.qz j
def src (ops:Array Oper) (i:Nat):Operand→X
 | .tmp t=>(match xu ops t i with | none=>.qq t | some k=>nx ops ops.size k)
 | .const v=>.const v
 | .global g=>.glob g
 | .func g=>.fn g
structure Nd where
 ro:RO
 args:List X
 g:Gd
 mv:Bool
 deriving Inhabited
def UR (ops:Array Oper) (i:Nat) (o:Oper):Option Gd :=
 match o.guard with
 | none=>some none
 | some (j,want)=>(jd ops j).map fun d=>some (src ops i (.tmp d),want)
def okX (l:List Nat):Operand→Bool
 | .tmp t=>l.contains t
 | _=>true
def qxw (P:Program) (ops:Array Oper) (i:Nat):Option Nd :=
 (ops[i]?).bind fun o=>(qz P o).bind fun r=>if r.2.all (okX (o.looksAt ops)) then (UR ops i o).map fun g=>⟨r.1,r.2.map (src ops i),g,(XM ops i).isSome⟩ else none
def mW (acc:List Nat) (o:Oper):Nat:=o.after.toList.foldl (fun s e=>if Region.binds .any e then s ||| 2 ^ e.on ||| acc.getD e.on 0 else s) 0
def tps:List Oper→List Nat→List Nat
 | [],acc=>acc
 | o::r,acc=>tps r (acc++[mW acc o])
def ci (ns tp:List Nat) (qt:List Bool) (D:Nat):Option Nat:=ns.find? fun i=>!D.testBit i && qt.getD i false && ((tp.getD i 0) &&& D == tp.getD i 0)
def td (ns tp:List Nat) (qt:List Bool) (D:Nat):List Nat:=ns.filter fun i=>!D.testBit i && !qt.getD i true && ((tp.getD i 0) &&& D == tp.getD i 0)
def qjX:List ET→ET
 | []=>.tt
 | [a]=>a
 | a::r=>.both a (qjX r)
def qyP (ns:List Nat) (nd:List Nd) (tp:List Nat) (D i:Nat):List (Nat×RO×List X×Gd) :=
 ns.filterMap fun j=>(nd[j]?).bind fun d=>if D.testBit j && d.ro.quiet && d.ro.reads && !(tp.getD i 0).testBit j then some (j,d.ro,d.args,d.g) else none
def mkT (ns:List Nat) (nd:List Nd) (tp:List Nat) (qt:List Bool) (outs:List (Nat×X)):Nat→Nat→ET
 | 0,_=>.fail
 | f+1,D =>
  match ci ns tp qt D with
  | some i =>
   match nd[i]? with
   | some d=>if d.mv then mkT ns nd tp qt outs f (D ||| 2 ^ i) else .q i d.ro d.args d.g (mkT ns nd tp qt outs f (D ||| 2 ^ i))
   | none=>.fail
  | none =>
   match td ns tp qt D with
   | []=>if ns.all (fun i=>D.testBit i) then .out outs else .fail
   | r=>qjX (r.map fun i=>match nd[i]? with | some d=>.x i d.ro d.args d.g (qyP ns nd tp D i) (mkT ns nd tp qt outs f (D ||| 2 ^ i)) | none=>.fail)
def mkS (outs:List (Nat×X)):List Nd→Nat→ET
 | [],_=>.out outs
 | d::r,i=>if d.mv then mkS outs r (i+1) else if d.ro.quiet then .q i d.ro d.args d.g (mkS outs r (i+1)) else .x i d.ro d.args d.g [] (mkS outs r (i+1))
end Go.Fw
namespace Go.Fw
section sim
variable {P:Program} {ops:Array Oper} {base:Nat→Value}
def opv (ops:Array Oper) (base:Nat→Value) (vals:Nat→Value) (i:Nat):Operand→Value
 | .tmp t=>(match xu ops t i with | none=>base t | some j=>vals j)
 | .const v=>v
 | .global g=>.pointer (some ⟨g,0,none⟩)
 | .func f=>.func (.func f) #[] #[]
def vG (ops:Array Oper) (base:Nat→Value) (vals:Nat→Value) (i:Nat) (o:Oper):Bool :=
 match o.guard with
 | none=>true
 | some (j,want)=>match jd ops j with
  | some d=>asB (opv ops base vals i (.tmp d)) == some want
  | none=>false
theorem WV {t:Nat}:∀ {i j:Nat},xu ops t i=some j→j < i∧jd ops j=some t
 | 0,_,h=>by simp [xu] at h
 | k+1,j,h=>by
  simp only [xu] at h
  split at h
  ·rename_i e;simp only [Option.some.injEq] at h;subst h;exact ⟨Nat.lt_succ_self _,e⟩
  ·have:=WV h;exact ⟨by omega,this.2⟩
structure yQ (P:Program) (ops:Array Oper) (nd:List Nd) (tp:List Nat) (qt:List Bool) (N:Nat):Prop where
 ap:∀ i j oi oj,i < j→ops[i]?=some oi→ops[j]?=some oj→(tp.getD j 0).testBit i=true∨oi.apart ops oj=true
 hnd:∀ i,i < ops.size→∃ d,nd[i]?=some d∧qxw P ops i=some d
 hqt:∀ i d,i < ops.size→nd[i]?=some d→qt[i]?=some d.ro.quiet
 hdst:∀ i d,jd ops i=some d→d < N
structure qJQ (ops:Array Oper) (tp:List Nat):Prop where
 back:∀ i o,ops[i]?=some o→∀ e∈o.after,Region.binds .any e=true→e.on < i
 htp:∀ i o,ops[i]?=some o→∀ k,(tp.getD i 0).testBit k=true→∃ e∈o.after,Region.binds .any e=true∧(k=e.on∨(tp.getD e.on 0).testBit k=true)
variable {nd:List Nd} {tp:List Nat} {qt:List Bool} {N:Nat}
theorem Ei {i j:Nat} {oi:Oper} {t:Nat} (ok:yQ P ops nd tp qt N) (hlt:j < i) (hi:ops[i]?=some oi) (hj:jd ops j=some t) (ht:t∈oi.looksAt ops):(tp.getD i 0).testBit j=true:=by
 unfold jd at hj
 obtain ⟨oj,hoj,hd⟩:=Option.bind_eq_some_iff.1 hj
 rcases ok.ap j i oj oi hlt hoj hi with h | h
 ·exact h
 ·exact absurd ht ((Oper.apart_spec h).1 t hd)
theorem qxX {i k:Nat} {oi:Oper} {t:Nat} (ok:yQ P ops nd tp qt N) (hlt:i < k) (hi:ops[i]?=some oi) (hk:jd ops k=some t) (ht:t∈oi.looksAt ops):(tp.getD k 0).testBit i=true:=by
 unfold jd at hk
 obtain ⟨ok',hok,hd⟩:=Option.bind_eq_some_iff.1 hk
 rcases ok.ap i k oi ok' hlt hi hok with h | h
 ·exact h
 ·exact absurd ht ((Oper.apart_spec h).2.2 t hd)
theorem qKe {i k:Nat} {t:Nat} (ok:yQ P ops nd tp qt N) (hlt:i < k) (hi:jd ops i=some t) (hk:jd ops k=some t):(tp.getD k 0).testBit i=true:=by
 unfold jd at hi hk
 obtain ⟨oi,hoi,hdi⟩:=Option.bind_eq_some_iff.1 hi
 obtain ⟨ok',hok,hd⟩:=Option.bind_eq_some_iff.1 hk
 rcases ok.ap i k oi ok' hlt hoi hok with h | h
 ·exact h
 ·exact absurd hd ((Oper.apart_spec h).2.1 t hdi)
structure Can (ops:Array Oper) (base:Nat→Value) (tp:List Nat) (D:Nat) (σ:Env) (vals:Nat→Value):Prop where
 closed:∀ i,D.testBit i=true→∀ k,(tp.getD i 0).testBit k=true→D.testBit k=true
 sg:∀ i,D.testBit i=true→XM ops i=none→σ.get i=vals i
 mv:∀ i x,D.testBit i=true→XM ops i=some x→vals i=opv ops base vals i x
theorem cZ {j:Nat} {x:Operand} (h:XM ops j=some x):∃ o,ops[j]?=some o∧∀ t,x=.tmp t→t∈o.looksAt ops:=by
 unfold XM at h
 split at h
 ·rename_i o ho
  refine ⟨o,ho,fun t hx=>?_⟩
  split at h
  ·split at h
   ·rename_i y hop;simp only [Option.some.injEq] at h;subst h;subst hx;simp [Oper.looksAt,hop,Op.operands]
   ·rename_i y hop;simp only [Option.some.injEq] at h;subst h;subst hx;simp [Oper.looksAt,hop,Op.operands]
   ·cases h
  ·cases h
 ·cases h
theorem qZU (ok:yQ P ops nd tp qt N) {D:Nat} {σ:Env} {vals:Nat→Value} (c:Can ops base tp D σ vals) :
  ∀ f j,j < f→D.testBit j=true→(nx ops f j).ev base σ=vals j
 | 0,j,h,_=>absurd h (by omega)
 | f+1,j,h,hj=>by
  simp only [nx]
  cases hm:XM ops j with
  | none=>simpa [X.ev] using c.sg j hj hm
  | some x =>
   have hv:=c.mv j x hj hm
   obtain ⟨o,ho,hl⟩:=cZ hm
   cases x with
   | tmp t =>
    simp only
    cases hw:xu ops t j with
    | none=>simp only [X.ev];rw [hv];simp [opv,hw]
    | some k =>
     obtain ⟨hk,hd⟩:=WV hw
     have hb:=Ei ok hk ho hd (hl t rfl)
     rw [hv]
     simp only [opv,hw]
     exact qZU ok c f k (by omega) (c.closed j hj k hb)
   | const v=>rw [hv];rfl
   | global g=>rw [hv];rfl
   | func g=>rw [hv];rfl
theorem LU (ok:yQ P ops nd tp qt N) {D:Nat} {σ:Env} {vals:Nat→Value} (c:Can ops base tp D σ vals) {i:Nat} (hi:i≤ops.size)
  {x:Operand} (hx:∀ t j,x=.tmp t→xu ops t i=some j→D.testBit j=true):(src ops i x).ev base σ=opv ops base vals i x:=by
 cases x with
 | tmp t =>
  simp only [src,opv]
  cases hw:xu ops t i with
  | none=>rfl
  | some j=>exact qZU ok c _ j (by have:=(WV hw).1;omega) (hx t j rfl hw)
 | const v=>rfl
 | global g=>rfl
 | func g=>rfl
theorem fU {vals vals':Nat→Value} {i:Nat} {x:Operand} (h:∀ t j,x=.tmp t→xu ops t i=some j→vals j=vals' j):opv ops base vals i x=opv ops base vals' i x:=by
 cases x with
 | tmp t =>
  simp only [opv]
  cases hw:xu ops t i with
  | none=>rfl
  | some j=>exact h t j rfl hw
 | _=>rfl
theorem Vg (ok:yQ P ops nd tp qt N) {D:Nat} {i:Nat} {o:Oper} (ho:ops[i]?=some o) (hp:∀ k,(tp.getD i 0).testBit k=true→D.testBit k=true)
  {t j:Nat} (ht:t∈o.looksAt ops) (hw:xu ops t i=some j):D.testBit j=true:=by
 obtain ⟨hlt,hd⟩:=WV hw
 exact hp _ (Ei ok hlt ho hd ht)
def upd (vals:Nat→Value) (i:Nat) (v:Value):Nat→Value:=fun k=>if k=i then v else vals k
theorem XD (vals:Nat→Value) (i:Nat) (v:Value):upd vals i v i=v:=by simp [upd]
theorem aa {vals:Nat→Value} {i k:Nat} (v:Value) (h:k≠i):upd vals i v k=vals k:=by simp [upd,h]
def QF (P:Program) (ops:Array Oper) (base:Nat→Value) (vals:Nat→Value) (m:Mem) (i:Nat):Prop :=
 ∀ o ro xl,ops[i]?=some o→qz P o=some (ro,xl)→ro.quiet=true ∧
  (vG ops base vals i o=true→rd ro (xl.map (opv ops base vals i)) m=some (vals i))∧(vG ops base vals i o=false→vals i=undef)
theorem VG {i:Nat} {d:Nd} (h:qxw P ops i=some d):∃ o ro xl g,ops[i]?=some o∧qz P o=some (ro,xl)∧xl.all (okX (o.looksAt ops))=true∧UR ops i o=some g ∧
  d=⟨ro,xl.map (src ops i),g,(XM ops i).isSome⟩:=by
 unfold qxw at h
 obtain ⟨o,ho,h⟩:=Option.bind_eq_some_iff.1 h
 obtain ⟨⟨ro,xl⟩,hr,h⟩:=Option.bind_eq_some_iff.1 h
 split at h
 ·rename_i hk
  obtain ⟨g,hg,h⟩:=Option.map_eq_some_iff.1 h
  exact ⟨o,ro,xl,g,ho,hr,hk,hg,h.symm⟩
 ·cases h
theorem Mu {l:List Nat} {xl:List Operand} (h:xl.all (okX l)=true) {t:Nat} (ht:.tmp t∈xl):t∈l:=by
 have:=List.all_eq_true.1 h _ ht
 simpa [okX] using this
theorem Yt {o:Oper} {j:Nat} {want:Bool} {d:Nat} (hg:o.guard=some (j,want)) (hd:jd ops j=some d):d∈o.looksAt ops:=by
 unfold Oper.looksAt
 refine List.mem_append_right _ ?_
 unfold jd at hd
 simp [hg,hd]
theorem rD (ok:yQ P ops nd tp qt N) {D:Nat} {σ:Env} {vals:Nat→Value} (c:Can ops base tp D σ vals) {i:Nat} {o:Oper} {g:Gd} (hi:i < ops.size) (ho:ops[i]?=some o)
  (hp:∀ k,(tp.getD i 0).testBit k=true→D.testBit k=true) (hg:UR ops i o=some g) {yes no:Prop} (h:gP base σ g yes no) :
  (vG ops base vals i o=true→yes)∧(vG ops base vals i o=false→no):=by
 unfold UR at hg
 unfold vG
 cases hgu:o.guard with
 | none=>simp only [hgu,Option.some.injEq] at hg;subst hg;exact ⟨fun _=>h,fun h0=>by cases h0⟩
 | some jw =>
  obtain ⟨j,want⟩:=jw
  simp only [hgu] at hg
  obtain ⟨d,hd,rfl⟩:=Option.map_eq_some_iff.1 hg
  simp only [hd]
  have e:=LU (base:=base) ok c (Nat.le_of_lt hi) (x:=.tmp d) (fun t k ht hw=>by
   cases ht;exact Vg ok ho hp (Yt hgu hd) hw)
  simp only [gP] at h
  rw [e] at h
  constructor
  ·intro hb;exact h.1 (by simpa using hb)
  ·intro hb;exact h.2 (by simpa using hb)
theorem tX (ok:yQ P ops nd tp qt N) {D:Nat} {σ:Env} {vals:Nat→Value} (c:Can ops base tp D σ vals) {i:Nat} {o:Oper} {xl:List Operand} (hi:i < ops.size) (ho:ops[i]?=some o)
  (hp:∀ k,(tp.getD i 0).testBit k=true→D.testBit k=true) (hk:xl.all (okX (o.looksAt ops))=true) :
  (xl.map (src ops i)).map (X.ev base σ)=xl.map (opv ops base vals i):=by
 rw [List.map_map]
 refine List.map_congr_left fun x hx=>?_
 exact LU (base:=base) ok c (Nat.le_of_lt hi) (fun t j ht hw=>by subst ht;exact Vg ok ho hp (Mu hk hx) hw)
theorem qL (D i k:Nat):(D ||| 2 ^ i).testBit k=(D.testBit k || decide (k=i)):=by
 rw [Nat.testBit_or,Nat.testBit_two_pow]
 congr 1
 by_cases h:i=k<;>simp [h,eq_comm]
theorem qZE {a D:Nat} (h:(a &&& D == a)=true):∀ k,a.testBit k=true→D.testBit k=true:=by
 intro k hk
 have h':a &&& D=a:=by simpa using h
 rw [← h',Nat.testBit_and] at hk
 simpa using (Bool.and_eq_true _ _▸hk).2
theorem Can.add (ok:yQ P ops nd tp qt N) {D:Nat} {σ:Env} {vals:Nat→Value} (c:Can ops base tp D σ vals) {i:Nat} (hi:i < ops.size) (hD:D.testBit i=false)
  (hp:∀ k,(tp.getD i 0).testBit k=true→D.testBit k=true) (v:Value) (σ':Env)
  (hm:XM ops i=none→σ'=(i,v)::σ) (hm':∀ x,XM ops i=some x→σ'=σ∧v=opv ops base vals i x) :
  Can ops base tp (D ||| 2 ^ i) σ' (upd vals i v):=by
 have hne:∀ k,D.testBit k=true→k≠i:=fun k hk e=>by subst e;rw [hD] at hk;cases hk
 constructor
 ·intro k hk j hj
  rw [qL] at hk ⊢
  by_cases e:k=i
  ·subst e;simp [hp j hj]
  ·simp only [e,decide_false,Bool.or_false] at hk
   simp [c.closed k hk j hj]
 ·intro k hk hmk
  rw [qL] at hk
  by_cases e:k=i
  ·subst e;rw [hm hmk,XD];simp [Env.get]
  ·simp only [e,decide_false,Bool.or_false] at hk
   rw [aa v e]
   cases hmi:XM ops i with
   | none=>rw [hm hmi];simp only [Env.get,if_neg e];exact c.sg k hk hmk
   | some x=>rw [(hm' x hmi).1];exact c.sg k hk hmk
 ·intro k x hk hmk
  rw [qL] at hk
  obtain ⟨o,ho,hl⟩:=cZ hmk
  by_cases e:k=i
  ·subst e
   rw [XD,(hm' x hmk).2]
   exact fU fun t j ht hw=>by
    have:=hne j (Vg ok ho hp (hl t ht) hw)
    rw [aa _ this]
  ·simp only [e,decide_false,Bool.or_false] at hk
   rw [aa v e,c.mv k x hk hmk]
   exact fU fun t j ht hw=>by
    have:=hne j (Vg ok ho (c.closed k hk) (hl t ht) hw)
    rw [aa _ this]
theorem QF.Rq (ok:yQ P ops nd tp qt N) {D:Nat} {vals vals':Nat→Value} {m:Mem} {i:Nat} {d:Nd} (hi:qxw P ops i=some d) (hiD:D.testBit i=true)
  (hp:∀ k,(tp.getD i 0).testBit k=true→D.testBit k=true)
  (hv:∀ k,D.testBit k=true→vals' k=vals k) (h:QF P ops base vals m i):QF P ops base vals' m i:=by
 obtain ⟨o,ro,xl,g,ho,hr,hk,hg,rfl⟩:=VG hi
 intro o' ro' xl' ho' hr'
 rw [ho] at ho';cases ho'
 rw [hr] at hr';cases hr'
 have ho'':=h o ro xl ho hr
 have hopv:∀ t,t∈o.looksAt ops→opv ops base vals' i (.tmp t)=opv ops base vals i (.tmp t):=fun t ht =>
  fU fun t' j e hw=>by cases e;exact hv j (Vg ok ho hp ht hw)
 have hw:vG ops base vals' i o=vG ops base vals i o:=by
  unfold vG
  cases hgu:o.guard with
  | none=>rfl
  | some jw =>
   obtain ⟨j,want⟩:=jw
   simp only
   cases hd:jd ops j with
   | none=>rfl
   | some d=>simp only;rw [hopv d (Yt hgu hd)]
 have hx:xl.map (opv ops base vals' i)=xl.map (opv ops base vals i):=List.map_congr_left fun x hx=>by
  cases x with
  | tmp t=>exact hopv t (Mu hk hx)
  | _=>rfl
 refine ⟨ho''.1,fun h1=>?_,fun h1=>?_⟩
 ·rw [hx,hv i hiD];exact ho''.2.1 (hw▸h1)
 ·rw [hv i hiD];exact ho''.2.2 (hw▸h1)
end sim
end Go.Fw
namespace Go.Fw
section sim
variable {P:Program} {ops:Array Oper} {base:Nat→Value} {nd:List Nd} {tp:List Nat} {qt:List Bool} {N:Nat} {outs:List (Nat×X)} {K:Env→Mem→Prop}
theorem RZ {ns:List Nat} {D i:Nat} (h:ci ns tp qt D=some i):i∈ns∧D.testBit i=false∧qt.getD i false=true∧∀ k,(tp.getD i 0).testBit k=true→D.testBit k=true:=by
 unfold ci at h
 have h1:=List.find?_some h
 simp only [Bool.and_eq_true,Bool.not_eq_true'] at h1
 exact ⟨List.mem_of_find?_eq_some h,h1.1.1,h1.1.2,qZE h1.2⟩
theorem RJ {ns:List Nat} {D:Nat} (h:ci ns tp qt D=none) {i:Nat} (hi:i∈ns) (hq:qt.getD i false=true)
  (hp:∀ k,(tp.getD i 0).testBit k=true→D.testBit k=true):D.testBit i=true:=by
 unfold ci at h
 have h1:=List.find?_eq_none.1 h i hi
 have hand:((tp.getD i 0) &&& D == tp.getD i 0)=true:=by
  simp only [beq_iff_eq]
  apply Nat.eq_of_testBit_eq
  intro k
  rw [Nat.testBit_and]
  cases hb:(tp.getD i 0).testBit k
  ·rfl
  ·simp [hp k hb]
 cases hD:D.testBit i
 ·rw [hD,hand,hq] at h1
  exact absurd rfl h1
 ·rfl
theorem Ef {i:Nat} {x:Operand} {o:Oper} (hm:XM ops i=some x) (ho:ops[i]?=some o):o.guard=none∧(o.op=.move x∨o.op=.assign x):=by
 unfold XM at hm
 rw [ho] at hm
 simp only at hm
 split at hm
 ·rename_i hg
  refine ⟨by simpa using hg,?_⟩
  split at hm
  ·rename_i y hop;simp only [Option.some.injEq] at hm;subst hm;exact .inl hop
  ·rename_i y hop;simp only [Option.some.injEq] at hm;subst hm;exact .inr hop
  ·cases hm
 ·cases hm
theorem QF.qZS {vals:Nat→Value} {m:Mem} {i:Nat} {x:Operand} (hm:XM ops i=some x) (hv:vals i=opv ops base vals i x):QF P ops base vals m i:=by
 intro o ro xl ho hr
 obtain ⟨hg,hop⟩:=Ef hm ho
 have hr':ro=.mv∧xl=[x]:=by
  obtain ⟨dst,op,type,pos,after,guard⟩:=o
  rcases hop with rfl | rfl<;>(simp only [qz] at hr;obtain ⟨rfl,rfl⟩:=qJ hr;exact ⟨rfl,rfl⟩)
 obtain ⟨rfl,rfl⟩:=hr'
 refine ⟨rfl,fun _=>?_,fun h=>?_⟩
 ·simp only [List.map_cons,List.map_nil,rd,rdp,RO.reads]
  rw [← hv]
 ·simp [vG,hg] at h
theorem Cr (ok:yQ P ops nd tp qt N) {D:Nat} {vals:Nat→Value} {i:Nat} {o:Oper} (ho:ops[i]?=some o) (hD:D.testBit i=false)
  (hp:∀ k,(tp.getD i 0).testBit k=true→D.testBit k=true) (v:Value) {x:Operand} (hx:∀ t,x=.tmp t→t∈o.looksAt ops) :
  opv ops base (upd vals i v) i x=opv ops base vals i x :=
 fU fun t j e hw=>by
  have:=Vg ok ho hp (hx t e) hw
  exact aa _ (fun e=>by subst e;rw [hD] at this;cases this)
theorem OF (ok:yQ P ops nd tp qt N) {D:Nat} {vals:Nat→Value} {i:Nat} {o:Oper} (ho:ops[i]?=some o) (hD:D.testBit i=false)
  (hp:∀ k,(tp.getD i 0).testBit k=true→D.testBit k=true) (v:Value):vG ops base (upd vals i v) i o=vG ops base vals i o:=by
 unfold vG
 cases hgu:o.guard with
 | none=>rfl
 | some jw =>
  obtain ⟨j,want⟩:=jw
  simp only
  cases hd:jd ops j with
  | none=>rfl
  | some d =>
   simp only
   rw [Cr (base:=base) ok ho hD hp v (x:=.tmp d) (fun t e=>by cases e;exact Yt hgu hd)]
theorem advance (ok:yQ P ops nd tp qt N):∀ (f D:Nat) (σ:Env) (vals:Nat→Value) (m:Mem),Can ops base tp D σ vals →
  etP P base (mkT (List.range ops.size) nd tp qt outs f D) σ m K →
  ∃ f' D' σ' vals',Can ops base tp D' σ' vals'∧ci (List.range ops.size) tp qt D'=none∧etP P base (mkT (List.range ops.size) nd tp qt outs (f'+1) D') σ' m K ∧
   (∀ i,D.testBit i=true→D'.testBit i=true∧vals' i=vals i)∧(∀ i,D'.testBit i=true→D.testBit i=true∨QF P ops base vals' m i)
 | 0,D,σ,vals,m,_,h=>by simp [mkT,etP] at h
 | f+1,D,σ,vals,m,c,h=>by
  cases hq:ci (List.range ops.size) tp qt D with
  | none=>exact ⟨f,D,σ,vals,c,hq,h,fun i hi=>⟨hi,rfl⟩,fun i hi=>.inl hi⟩
  | some i =>
   obtain ⟨hin,hD,hqi,hp⟩:=RZ hq
   have hi:i < ops.size:=by simpa using hin
   obtain ⟨d,hd,hnd⟩:=ok.hnd i hi
   obtain ⟨o,ro,xl,g,ho,hr,hk,hg,hde⟩:=VG hnd
   have hquiet:ro.quiet=true:=by
    have:=ok.hqt i d hi hd
    rw [List.getD_eq_getElem?_getD,this] at hqi
    rw [hde] at hqi
    simpa using hqi
   simp only [mkT,hq,hd] at h
   have step:∀ (v:Value) (σ1:Env),(XM ops i=none→σ1=(i,v)::σ)→(∀ x,XM ops i=some x→σ1=σ∧v=opv ops base vals i x) →
     QF P ops base (upd vals i v) m i→etP P base (mkT (List.range ops.size) nd tp qt outs f (D ||| 2 ^ i)) σ1 m K →
     ∃ f' D' σ' vals',Can ops base tp D' σ' vals'∧ci (List.range ops.size) tp qt D'=none∧etP P base (mkT (List.range ops.size) nd tp qt outs (f'+1) D') σ' m K ∧
      (∀ i,D.testBit i=true→D'.testBit i=true∧vals' i=vals i)∧(∀ i,D'.testBit i=true→D.testBit i=true∨QF P ops base vals' m i):=by
    intro v σ1 h1 h2 hqf het
    have c1:=c.add ok hi hD hp v σ1 h1 h2
    obtain ⟨f',D',σ',vals',c',hq',het',hk',hn'⟩:=advance ok f (D ||| 2 ^ i) σ1 (upd vals i v) m c1 het
    have hiD':D'.testBit i=true:=(hk' i (by rw [qL];simp)).1
    refine ⟨f',D',σ',vals',c',hq',het',fun k hkD=>?_,fun k hkD=>?_⟩
    ·have:=hk' k (by rw [qL];simp [hkD])
     refine ⟨this.1,this.2.trans (aa v (fun e=>by subst e;rw [hD] at hkD;cases hkD))⟩
    ·rcases hn' k hkD with h' | h'
     ·rw [qL] at h'
      by_cases e:k=i
      ·subst e
       refine .inr ?_
       exact QF.Rq (D:=D ||| 2 ^ k) ok hnd (by rw [qL];simp) (fun j hj=>by rw [qL];simp [hp j hj]) (fun j hj=>(hk' j hj).2) hqf
      ·simp only [e,decide_false,Bool.or_false] at h'
       exact .inl h'
     ·exact .inr h'
   cases hm:XM ops i with
   | some x =>
    have hmv:d.mv=true:=by rw [hde];simp [hm]
    simp only [hmv,if_true] at h
    obtain ⟨o',ho',hl⟩:=cZ hm
    rw [ho] at ho';cases ho'
    exact step (opv ops base vals i x) σ (fun e=>by rw [hm] at e;cases e) (fun x' e=>by rw [hm] at e;cases e;exact ⟨rfl,rfl⟩)
     (QF.qZS hm (by rw [XD];exact (Cr (base:=base) ok ho hD hp _ hl).symm)) h
   | none =>
    have hmv:d.mv=false:=by rw [hde];simp [hm]
    simp only [hmv,Bool.false_eq_true,if_false,etP] at h
    rw [hde] at h
    simp only at h
    have hgw:=rD (base:=base) ok c hi ho hp hg h
    have hav:=tX (base:=base) ok c hi ho hp hk
    cases hw:vG ops base vals i o with
    | true =>
     obtain ⟨v,hv,het⟩:=hgw.1 hw
     rw [hav] at hv
     refine step v ((i,v)::σ) (fun _=>rfl) (fun x e=>by rw [hm] at e;cases e) ?_ het
     intro o' ro' xl' ho' hr'
     rw [ho] at ho';cases ho'
     rw [hr] at hr';cases hr'
     refine ⟨hquiet,fun _=>?_,fun h0=>?_⟩
     ·rw [XD,← hv]
      congr 1
      exact List.map_congr_left fun x hx=>Cr (base:=base) ok ho hD hp v (fun t e=>by subst e;exact Mu hk hx)
     ·rw [OF (base:=base) ok ho hD hp v,hw] at h0;cases h0
    | false =>
     have het:=hgw.2 hw
     refine step undef ((i,undef)::σ) (fun _=>rfl) (fun x e=>by rw [hm] at e;cases e) ?_ het
     intro o' ro' xl' ho' hr'
     rw [ho] at ho';cases ho'
     rw [hr] at hr';cases hr'
     refine ⟨hquiet,fun h0=>?_,fun _=>XD _ _ _⟩
     rw [OF (base:=base) ok ho hD hp undef,hw] at h0;cases h0
def lkW (ops:Array Oper) (listed:Array Bool) (t:Nat):Nat→Option Nat
 | 0=>none
 | k+1=>if jd ops k=some t∧listed.getD k false=true then some k else lkW ops listed t k
def fv (base:Nat→Value) (vals:Nat→Value) (t:Nat):Option Nat→Value
 | none=>base t
 | some j=>vals j
structure Fri (ops:Array Oper) (base:Nat→Value) (N:Nat) (listed:Array Bool) (a:Act) (vals:Nat→Value):Prop where
 size:a.tmps.size=N
 defers:a.defers=[]
 at_:∀ t,a.tmps.getD t undef=fv base vals t (lkW ops listed t ops.size)
def oC (tp:List Nat) (listed:Array Bool):Prop:=∀ j,listed.getD j false=true→∀ k,(tp.getD j 0).testBit k=true→listed.getD k false=true
theorem qvo {listed:Array Bool} {t:Nat}:∀ {n j:Nat},lkW ops listed t n=some j→j < n∧jd ops j=some t∧listed.getD j false=true
 | 0,_,h=>by simp [lkW] at h
 | k+1,j,h=>by
  simp only [lkW] at h
  split at h
  ·rename_i e;simp only [Option.some.injEq] at h;subst h;exact ⟨Nat.lt_succ_self _,e⟩
  ·have:=qvo h;exact ⟨by omega,this.2⟩
theorem Lw (ok:yQ P ops nd tp qt N) {listed:Array Bool} (cl:oC tp listed) {i:Nat} {o:Oper} (ho:ops[i]?=some o) (hu:listed.getD i false=false)
  (hp:∀ k,(tp.getD i 0).testBit k=true→listed.getD k false=true) {t:Nat} (ht:t∈o.looksAt ops) :
  ∀ n,lkW ops listed t n=xu ops t (min n i)
 | 0=>by simp [lkW,xu]
 | k+1=>by
  have ih:=Lw ok cl ho hu hp ht k
  simp only [lkW]
  by_cases hd:jd ops k=some t
  ·rcases Nat.lt_trichotomy k i with h | h | h
   ·have:listed.getD k false=true:=hp k (Ei ok h ho hd ht)
    rw [if_pos ⟨hd,this⟩,show min (k+1) i=k+1 from by omega]
    simp [xu,hd]
   ·subst h
    rw [if_neg (by rw [hu];simp),ih]
    congr 1;omega
   ·have hb:=qxX ok h ho hd ht
    have:¬ listed.getD k false=true:=fun e=>by rw [cl k e i hb] at hu;cases hu
    rw [if_neg (fun e=>this e.2),ih]
    congr 1;omega
  ·rw [if_neg (fun e=>hd e.1),ih]
   rcases Nat.lt_or_ge k i with h | h
   ·rw [show min k i=k from by omega,show min (k+1) i=k+1 from by omega]
    simp [xu,hd]
   ·congr 1;omega
theorem qzA (ok:yQ P ops nd tp qt N) {listed:Array Bool} (cl:oC tp listed) {i:Nat} {o:Oper} (hi:i < ops.size) (ho:ops[i]?=some o) (hu:listed.getD i false=false)
  (hp:∀ k,(tp.getD i 0).testBit k=true→listed.getD k false=true) {a:Act} {vals:Nat→Value} (fr:Fri ops base N listed a vals) {x:Operand} (hx:∀ t,x=.tmp t→t∈o.looksAt ops) :
  a.eval x=opv ops base vals i x:=by
 cases x with
 | tmp t =>
  simp only [Act.eval,opv]
  have:=fr.at_ t
  rw [Lw ok cl ho hu hp (hx t rfl),show min ops.size i=i from by omega] at this
  rw [this]
  cases xu ops t i<;>rfl
 | const v=>rfl
 | global g=>rfl
 | func f=>rfl
theorem qkQ (ok:yQ P ops nd tp qt N) {listed:Array Bool} (cl:oC tp listed) {i:Nat} {o:Oper} {g:Gd} (hi:i < ops.size) (ho:ops[i]?=some o) (hg:UR ops i o=some g) (hu:listed.getD i false=false)
  (hp:∀ k,(tp.getD i 0).testBit k=true→listed.getD k false=true) {a:Act} {vals:Nat→Value} (fr:Fri ops base N listed a vals) :
  Region.wanted o (yielded ops a.tmps)=vG ops base vals i o:=by
 unfold Region.wanted vG
 cases hgu:o.guard with
 | none=>rfl
 | some jw =>
  obtain ⟨j,want⟩:=jw
  simp only
  unfold UR at hg
  simp only [hgu] at hg
  obtain ⟨d,hd,_⟩:=Option.map_eq_some_iff.1 hg
  simp only [hd]
  have e:=qzA (base:=base) ok cl hi ho hu hp fr (x:=.tmp d) (fun t e=>by cases e;exact Yt hgu hd)
  rw [← e]
  have:yielded ops a.tmps j=asB (a.eval (.tmp d)):=by
   unfold yielded
   unfold jd at hd
   rw [hd]
   simp only [Option.bind_some,Act.eval]
   rcases Nat.lt_or_ge d a.tmps.size with h | h
   ·simp only [Array.getElem?_eq_getElem h,Array.getD,h,dite_true]
    cases hv:a.tmps[d]<;>simp [asB,hv]
   ·have h1:a.tmps.getD d undef=undef:=by simp [Array.getD,Nat.not_lt.2 h]
    rw [Array.getElem?_eq_none h,h1];rfl
  rw [this]
theorem kZ {listed:Array Bool} {i k:Nat} (hi:i < listed.size):(listed.setIfInBounds i true).getD k false=(decide (k=i) || listed.getD k false):=by
 by_cases e:k=i
 ·subst e;simp [hi]
 ·have:i≠k:=fun h=>e h.symm
  simp [Array.getElem?_setIfInBounds_ne this,e]
theorem Nq (ok:yQ P ops nd tp qt N) {listed:Array Bool} (cl:oC tp listed) {i:Nat} (hl:i < listed.size) (hu:listed.getD i false=false) (t:Nat) :
  ∀ n,lkW ops (listed.setIfInBounds i true) t n=if jd ops i=some t∧i < n then some i else lkW ops listed t n
 | 0=>by simp [lkW]
 | k+1=>by
  have ih:=Nq ok cl hl hu t k
  simp only [lkW,kZ hl,ih]
  by_cases hd:jd ops k=some t
  ·by_cases e:k=i
   ·subst e;simp [hd]
   ·simp only [hd,e,decide_false,Bool.false_or,true_and]
    by_cases hk:listed.getD k false=true
    ·rw [if_pos hk]
     by_cases hdi:jd ops i=some t∧i < k+1
     ·have hik:i < k:=by omega
      have:=cl k hk i (qKe ok hik hdi.1 hd)
      rw [hu] at this;cases this
     ·rw [if_neg hdi,if_pos hk]
    ·rw [if_neg hk,if_neg hk]
     by_cases hdi:jd ops i=some t
     ·by_cases h:i < k
      ·rw [if_pos ⟨hdi,h⟩,if_pos ⟨hdi,by omega⟩]
      ·rw [if_neg (fun e=>h e.2),if_neg (fun e=>by omega)]
     ·rw [if_neg (fun e=>hdi e.1),if_neg (fun e=>hdi e.1)]
  ·rw [if_neg (fun e=>hd e.1),if_neg (fun e:jd ops k=some t∧_=>hd e.1)]
   by_cases hdi:jd ops i=some t
   ·have hne:k≠i:=fun e=>by subst e;exact hd hdi
    by_cases h:i < k
    ·rw [if_pos ⟨hdi,h⟩,if_pos ⟨hdi,by omega⟩]
    ·rw [if_neg (fun e=>h e.2),if_neg (fun e=>by omega)]
   ·rw [if_neg (fun e=>hdi e.1),if_neg (fun e=>hdi e.1)]
theorem Fri.put (ok:yQ P ops nd tp qt N) {listed:Array Bool} (cl:oC tp listed) {i:Nat} {o:Oper} (hi:i < ops.size) (ho:ops[i]?=some o) (hl:i < listed.size) (hu:listed.getD i false=false)
  {a:Act} {vals vals':Nat→Value} (fr:Fri ops base N listed a vals) (hv:∀ k,listed.getD k false=true→vals' k=vals k) {v:Value} (hvi:vals' i=v) :
  Fri ops base N (listed.setIfInBounds i true) (a.put o.dst v) vals':=by
 have hdo:jd ops i=o.dst:=by simp [jd,ho]
 have hold:∀ t n,fv base vals' t (lkW ops listed t n)=fv base vals t (lkW ops listed t n):=fun t n=>by
  cases h:lkW ops listed t n with
  | none=>rfl
  | some j=>exact hv j (qvo h).2.2
 cases hd:o.dst with
 | none =>
  rw [hd] at hdo
  refine ⟨fr.size,fr.defers,fun t=>?_⟩
  rw [Nq ok cl hl hu t,if_neg (fun e=>by rw [hdo] at e;cases e.1),hold]
  exact fr.at_ t
 | some d =>
  rw [hd] at hdo
  have hdN:=ok.hdst i d hdo
  refine ⟨by simp [Act.put,fr.size],fr.defers,fun t=>?_⟩
  rw [Nq ok cl hl hu t]
  by_cases e:t=d
  ·subst e
   rw [if_pos ⟨hdo,hi⟩]
   simp only [fv,hvi,Act.put]
   have:t < a.tmps.size:=by rw [fr.size];exact hdN
   simp [this]
  ·rw [if_neg (fun h=>by rw [hdo] at h;exact e (Option.some.inj h.1).symm),hold]
   rw [← fr.at_ t]
   simp only [Act.put]
   have:d≠t:=fun h=>e h.symm
   simp [Array.getElem?_setIfInBounds_ne this]
end sim
end Go.Fw
namespace Go.Fw
section sim
variable {P:Program} {ops:Array Oper} {base:Nat→Value} {nd:List Nd} {tp:List Nat} {qt:List Bool} {N:Nat} {outs:List (Nat×X)} {K:Env→Mem→Prop}
theorem qvv {ro:RO} (h:ro.reads=false) (args:List Value) (m m':Mem):rd ro args m=rd ro args m':=by
 simp only [rd,h]
theorem AJ {o:Oper} {a:Act} {w:World} {Kx:Value→Mem→Prop} {next:Act→World→Prop} {Q:Exit→Act→World→Prop}
  (h:Gh P o a.eval (qO w) Kx) (hn:∀ v w',jn w w'→Kx v (qO w')→next (a.put o.dst v) w'):o.wp P a w next Q:=by
 have h1:=h w rfl
 unfold Oper.wp
 generalize (execOp a.eval o).run P w=r at *
 cases r with
 | halt x w'=>exact h1.elim
 | ok n w' =>
  cases n<;>simp only [qjK] at h1<;>simp only [Oper.upon]<;>first | exact h1.elim | skip
  ·exact hn _ _ h1.1 h1.2
  ·exact hn _ _ h1.1 h1.2
  ·exact h1.2.mono fun e w'' ⟨v,he,hs,hk⟩=>by subst he;exact hn _ _ (h1.1.trans hs) hk
theorem LA {L:Nat→Value} {σ:Env} {m:Mem}:∀ {l:List ET},etP P L (qjX l) σ m K→∀ e∈l,etP P L e σ m K
 | [],_,e,he=>by cases he
 | [a],h,e,he=>by simp only [List.mem_singleton] at he;subst he;exact h
 | a::b::r,h,e,he=>by
  simp only [qjX,etP] at h
  rcases List.mem_cons.1 he with rfl | he
  ·exact h.1
  ·exact LA (l:=b::r) h.2 e he
theorem qzi {L:Nat→Value} {σ:Env} {m:Mem}:∀ {l:List (Nat×RO×List X×Gd)},rcP L σ m l→∀ e∈l,gP L σ e.2.2.2 (rd e.2.1 (e.2.2.1.map (X.ev L σ)) m=some (σ.get e.1)) True
 | [],_,e,he=>by cases he
 | (i,ro,args,g)::r,h,e,he=>by
  simp only [rcP] at h
  rcases List.mem_cons.1 he with rfl | he
  ·exact h.1
  ·exact qzi h.2 e he
structure St (P:Program) (ops:Array Oper) (base:Nat→Value) (tp:List Nat) (qt:List Bool) (N:Nat) (listed:Array Bool) (a:Act) (w:World) (D:Nat) (σ:Env) (vals:Nat→Value):Prop where
 can:Can ops base tp D σ vals
 sat:ci (List.range ops.size) tp qt D=none
 size:listed.size=ops.size
 closed:oC tp listed
 sub:∀ i,listed.getD i false=true→D.testBit i=true
 xin:∀ i,i < ops.size→D.testBit i=true→listed.getD i false=false→qt.getD i false=true
 qf:∀ i,i < ops.size→D.testBit i=true→listed.getD i false=false→QF P ops base vals (qO w) i
 fri:Fri ops base N listed a vals
theorem qXu (ok:yQ P ops nd tp qt N) {listed:Array Bool} {a:Act} {w:World} {D:Nat} {σ:Env} {vals:Nat→Value} (s:St P ops base tp qt N listed a w D σ vals)
  (hall:∀ i,i < ops.size→listed.getD i false=true) (t:Nat):a.tmps.getD t undef=(src ops ops.size (.tmp t)).ev base σ:=by
 have e:∀ n,n≤ops.size→lkW ops listed t n=xu ops t n:=by
  intro n
  induction n with
  | zero=>intro _;rfl
  | succ k ih =>
   intro hk
   simp only [lkW,xu,ih (by omega)]
   have:=hall k (by omega)
   by_cases hd:jd ops k=some t
   ·rw [if_pos ⟨hd,this⟩,if_pos hd]
   ·rw [if_neg (fun e=>hd e.1),if_neg hd]
 rw [s.fri.at_ t,e _ (Nat.le_refl _),LU (base:=base) ok s.can (Nat.le_refl _) (fun t' j _ hw=>s.sub j (hall j (WV hw).1))]
 simp only [opv]
 cases xu ops t ops.size<;>rfl
theorem sim (ok:yQ P ops nd tp qt N) (dr:qJQ ops tp) (houts:∀ p∈outs,p.2=src ops ops.size (.tmp p.1)) {w0:World} {Q:Exit→Act→World→Prop}
  (hQ:∀ a' w' L',jn w0 w'→a'.tmps.size=N→a'.defers=[]→(∀ p∈L',a'.tmps.getD p.1 undef=p.2)→K L' (qO w')→Q .normal a' w') :
  ∀ (k:Nat) (listed:Array Bool) (a:Act) (w:World) (f D:Nat) (σ:Env) (vals:Nat→Value),(∃ left:List Nat,left.length≤k∧∀ i,i < ops.size→listed.getD i false=false→i∈left)→jn w0 w →
   St P ops base tp qt N listed a w D σ vals→etP P base (mkT (List.range ops.size) nd tp qt outs (f+1) D) σ (qO w) K→wpAny P .any ops Q k listed a w:=by
 have hend:∀ (listed:Array Bool) (a:Act) (w:World) (f D:Nat) (σ:Env) (vals:Nat→Value),jn w0 w→St P ops base tp qt N listed a w D σ vals →
   etP P base (mkT (List.range ops.size) nd tp qt outs (f+1) D) σ (qO w) K→Region.ready .any ops listed=[]→Q .normal a w:=by
  intro listed a w f D σ vals hs s het hr
  have hall:∀ i,i < ops.size→listed.getD i false=true:=by
   intro i
   induction i using Nat.strongRecOn with
   | _ i ih =>
    intro hi
    cases hu:listed.getD i false
    ·exfalso
     have:i∈Region.ready .any ops listed:=by
      rw [mem_ready]
      refine ⟨?_,ops[i],Array.getElem?_eq_getElem hi,fun e he hb=>?_⟩
      ·have:i < listed.size:=by rw [s.size];exact hi
       simp only [Array.getD_eq_getD_getElem?,Array.getElem?_eq_getElem this,Option.getD_some] at hu ⊢
       exact hu
      ·have hlt:=dr.back i ops[i] (Array.getElem?_eq_getElem hi) e he hb
       exact ih e.on hlt (by omega)
     rw [hr] at this;cases this
    ·rfl
  have hD:∀ i,i < ops.size→D.testBit i=true:=fun i hi=>s.sub i (hall i hi)
  simp only [mkT,s.sat] at het
  have hrx:td (List.range ops.size) tp qt D=[]:=by
   unfold td
   rw [List.filter_eq_nil_iff]
   intro i hi
   simp [hD i (by simpa using hi)]
  have hal:(List.range ops.size).all (fun i=>D.testBit i)=true:=by
   rw [List.all_eq_true];intro i hi;exact hD i (by simpa using hi)
  simp only [hrx,hal,if_true,etP] at het
  refine hQ a w _ hs s.fri.size s.fri.defers ?_ het
  intro p hp
  obtain ⟨q,hq,rfl⟩:=List.mem_map.1 hp
  simp only
  rw [houts q hq]
  exact qXu ok s hall q.1
 intro k
 induction k with
 | zero =>
  rintro listed a w f D σ vals ⟨left,hlen,hleft⟩ hs s het
  have hnil:left=[]:=List.eq_nil_of_length_eq_zero (by omega)
  subst hnil
  have hr:Region.ready .any ops listed=[]:=by
   cases hr:Region.ready .any ops listed with
   | nil=>rfl
   | cons i r =>
    have hi:i∈Region.ready .any ops listed:=by rw [hr];exact List.mem_cons_self ..
    obtain ⟨h0,o,ho,_⟩:=mem_ready.1 hi
    have hlt:i < ops.size:=(Array.getElem?_eq_some_iff.1 ho).1
    have hl:i < listed.size:=by rw [s.size];exact hlt
    have:listed.getD i false=false:=by
     simp only [Array.getD_eq_getD_getElem?,Array.getElem?_eq_getElem hl,Option.getD_some] at h0 ⊢
     exact h0
    cases hleft i hlt this
  exact ⟨hr,hend listed a w f D σ vals hs s het hr⟩
 | succ k ih =>
  rintro listed a w f D σ vals ⟨left,hlen,hleft⟩ hs s het
  refine ⟨fun hr=>hend listed a w f D σ vals hs s het hr,fun i hir=>?_⟩
  obtain ⟨h0,o,ho,hdir⟩:=mem_ready.1 hir
  have hlt:i < ops.size:=(Array.getElem?_eq_some_iff.1 ho).1
  have hl:i < listed.size:=by rw [s.size];exact hlt
  have hu:listed.getD i false=false:=by
   simp only [Array.getD_eq_getD_getElem?,Array.getElem?_eq_getElem hl,Option.getD_some] at h0 ⊢
   exact h0
  have hp:∀ j,(tp.getD i 0).testBit j=true→listed.getD j false=true:=by
   intro j hj
   obtain ⟨e,he,hb,h | h⟩:=dr.htp i o ho j hj
   ·subst h;exact hdir e he hb
   ·exact s.closed e.on (hdir e he hb) j h
  have hpD:∀ j,(tp.getD i 0).testBit j=true→D.testBit j=true:=fun j hj=>s.sub j (hp j hj)
  obtain ⟨d,hd,hnd⟩:=ok.hnd i hlt
  obtain ⟨o',ro,xl,g,ho',hr,hk,hg,hde⟩:=VG hnd
  rw [ho] at ho';cases ho'
  have hqt:=ok.hqt i d hlt hd
  have hwa:=qkQ (base:=base) ok s.closed hlt ho hg hu hp s.fri
  have hargs:xl.map a.eval=xl.map (opv ops base vals i):=List.map_congr_left fun x hx =>
   qzA (base:=base) ok s.closed hlt ho hu hp s.fri (fun t e=>by subst e;exact Mu hk hx)
  have hleft':∃ left':List Nat,left'.length≤k∧∀ j,j < ops.size→(listed.setIfInBounds i true).getD j false=false→j∈left':=by
   have hmem:=hleft i hlt hu
   refine ⟨left.erase i,by rw [List.length_erase_of_mem hmem];omega,fun j hj hju=>?_⟩
   rw [kZ hl] at hju
   simp only [Bool.or_eq_false_iff,decide_eq_false_iff_not] at hju
   exact (List.mem_erase_of_ne hju.1).2 (hleft j hj hju.2)
  have hcl':oC tp (listed.setIfInBounds i true):=by
   intro j hj n hn
   rw [kZ hl] at hj ⊢
   by_cases e:j=i
   ·subst e;rw [hp n hn];simp
   ·simp only [e,decide_false,Bool.false_or] at hj
    rw [s.closed j hj n hn];simp
  unfold wpOp
  simp only [ho]
  cases hqi:ro.quiet with
  | true =>
   have hqg:qt.getD i false=true:=by rw [List.getD_eq_getElem?_getD,hqt,hde];simpa using hqi
   have hD:D.testBit i=true:=RJ s.sat (by simpa using hlt) hqg hpD
   have hqf:=s.qf i hlt hD hu o ro xl ho hr
   have hnext:wpAny P .any ops Q k (listed.setIfInBounds i true) (a.put o.dst (vals i)) w:=by
    refine ih _ _ _ f D σ vals hleft' hs ?_ het
    refine ⟨s.can,s.sat,by simp [s.size],hcl',fun j hj=>?_,fun j hj hjD hju=>?_,fun j hj hjD hju=>?_,?_⟩
    ·rw [kZ hl] at hj
     by_cases e:j=i
     ·subst e;exact hD
     ·simp only [e,decide_false,Bool.false_or] at hj;exact s.sub j hj
    ·rw [kZ hl] at hju
     simp only [Bool.or_eq_false_iff] at hju
     exact s.xin j hj hjD hju.2
    ·rw [kZ hl] at hju
     simp only [Bool.or_eq_false_iff] at hju
     exact s.qf j hj hjD hju.2
    ·exact s.fri.put ok s.closed hlt ho hl hu (fun _ _=>rfl) rfl
   rw [hwa]
   cases hw:vG ops base vals i o with
   | true =>
    simp only [if_true]
    left
    have hrd:=hqf.2.1 hw
    rw [← hargs] at hrd
    have hrun:=IG (w:=w) hr hqi hrd rfl (fun f=>rfl)
    unfold Oper.wp
    rw [hrun]
    exact hnext
   | false =>
    simp only [Bool.false_eq_true,if_false]
    rw [← hqf.2.2 hw]
    exact hnext
  | false =>
   have hqg:qt.getD i true=false:=by rw [List.getD_eq_getElem?_getD,hqt,hde];simpa using hqi
   have hqg':qt.getD i false=false:=by rw [List.getD_eq_getElem?_getD,hqt,hde];simpa using hqi
   have hD:D.testBit i=false:=by
    cases h:D.testBit i
    ·rfl
    ·have:=s.xin i hlt h hu;rw [hqg'] at this;cases this
   have hmv:XM ops i=none:=by
    cases hm:XM ops i with
    | none=>rfl
    | some x =>
     have:=(QF.qZS (P:=P) (m:=qO w) (vals:=upd vals i (opv ops base vals i x)) hm (by
      rw [XD]
      obtain ⟨o2,ho2,hl2⟩:=cZ hm
      rw [ho] at ho2;cases ho2
      exact (Cr (base:=base) ok ho hD hpD _ hl2).symm)) o ro xl ho hr
     rw [hqi] at this;cases this.1
   have hin:i∈td (List.range ops.size) tp qt D:=by
    unfold td
    rw [List.mem_filter]
    refine ⟨by simpa using hlt,?_⟩
    have hand:((tp.getD i 0) &&& D == tp.getD i 0)=true:=by
     simp only [beq_iff_eq]
     apply Nat.eq_of_testBit_eq
     intro n
     rw [Nat.testBit_and]
     cases hb:(tp.getD i 0).testBit n
     ·rfl
     ·simp [hpD n hb]
    rw [hD,hqg,hand];rfl
   have hx:etP P base (.x i ro (xl.map (src ops i)) g (qyP (List.range ops.size) nd tp D i) (mkT (List.range ops.size) nd tp qt outs f (D ||| 2 ^ i))) σ (qO w) K:=by
    simp only [mkT,s.sat] at het
    cases hrl:td (List.range ops.size) tp qt D with
    | nil=>rw [hrl] at hin;cases hin
    | cons j0 r0 =>
     rw [hrl] at het hin
     simp only at het
     have:=LA het _ (List.mem_map.2 ⟨i,hin,rfl⟩)
     rw [hd] at this
     simp only [hde] at this
     exact this
   simp only [etP] at hx
   have hgw:=rD (base:=base) ok s.can hlt ho hpD hg hx
   have hav:=tX (base:=base) ok s.can hlt ho hpD hk
   have hafter:∀ v w',jn w0 w'→(∀ j,j < ops.size→D.testBit j=true→(listed.setIfInBounds i true).getD j false=false→QF P ops base (upd vals i v) (qO w') j) →
     etP P base (mkT (List.range ops.size) nd tp qt outs f (D ||| 2 ^ i)) ((i,v)::σ) (qO w') K→wpAny P .any ops Q k (listed.setIfInBounds i true) (a.put o.dst v) w':=by
    intro v w' hs' hqf' het'
    have c1:=s.can.add ok hlt hD hpD v ((i,v)::σ) (fun _=>rfl) (fun x e=>by rw [hmv] at e;cases e)
    obtain ⟨f',D',σ',vals',c',hq',het'',hk',hn'⟩:=advance ok f (D ||| 2 ^ i) _ _ _ c1 het'
    have hiD':(D ||| 2 ^ i).testBit i=true:=by rw [qL];simp
    refine ih _ _ _ f' D' σ' vals' hleft' hs' ?_ het''
    refine ⟨c',hq',by simp [s.size],hcl',fun j hj=>?_,fun j hj hjD hju=>?_,fun j hj hjD hju=>?_,?_⟩
    ·rw [kZ hl] at hj
     refine (hk' j ?_).1
     rw [qL]
     by_cases e:j=i
     ·simp [e]
     ·simp only [e,decide_false,Bool.false_or] at hj;simp [s.sub j hj]
    ·have hne:j≠i:=fun e=>by subst e;rw [kZ hl] at hju;simp at hju
     rcases hn' j hjD with h' | h'
     ·rw [qL] at h'
      simp only [hne,decide_false,Bool.or_false] at h'
      rw [kZ hl] at hju
      simp only [Bool.or_eq_false_iff] at hju
      exact s.xin j hj h' hju.2
     ·obtain ⟨dj,hdj,hndj⟩:=ok.hnd j hj
      obtain ⟨oj,roj,xlj,gj,hoj,hrj,_,_,hdej⟩:=VG hndj
      have:=(h' oj roj xlj hoj hrj).1
      rw [List.getD_eq_getElem?_getD,ok.hqt j dj hj hdj,hdej]
      simpa using this
    ·have hne:j≠i:=fun e=>by subst e;rw [kZ hl] at hju;simp at hju
     rcases hn' j hjD with h' | h'
     ·have h'':=h'
      rw [qL] at h'
      simp only [hne,decide_false,Bool.or_false] at h'
      obtain ⟨dj,hdj,hndj⟩:=ok.hnd j hj
      exact QF.Rq (D:=D ||| 2 ^ i) ok hndj h'' (c1.closed j h'') (fun n hn=>(hk' n hn).2) (hqf' j hj h' hju)
     ·exact h'
    ·have hvi:vals' i=v:=by rw [(hk' i hiD').2,XD]
     refine s.fri.put ok s.closed hlt ho hl hu (fun n hn=>?_) hvi
     have hnD:=s.sub n hn
     have hne:n≠i:=fun e=>by subst e;rw [hD] at hnD;cases hnD
     rw [(hk' n (by rw [qL];simp [hnD])).2,aa v hne]
   rw [hwa]
   cases hw:vG ops base vals i o with
   | false =>
    simp only [Bool.false_eq_true,if_false]
    refine hafter undef w hs (fun j hj hjD hju=>?_) (hgw.2 hw)
    rw [kZ hl] at hju
    simp only [Bool.or_eq_false_iff,decide_eq_false_iff_not] at hju
    obtain ⟨dj,hdj,hndj⟩:=ok.hnd j hj
    exact QF.Rq (D:=D) ok hndj hjD (s.can.closed j hjD) (fun n hn=>aa _ (fun e=>by subst e;rw [hD] at hn;cases hn)) (s.qf j hj hjD hju.2)
   | true =>
    simp only [if_true]
    left
    have hxs:=hgw.1 hw
    rw [hav,← hargs] at hxs
    have hst:=qZO hr hqi hxs (fun f=>rfl)
    refine AJ hst fun v w' hs' ⟨hrc,het'⟩=>hafter v w' (hs.trans hs') (fun j hj hjD hju=>?_) het'
    rw [kZ hl] at hju
    simp only [Bool.or_eq_false_iff,decide_eq_false_iff_not] at hju
    obtain ⟨dj,hdj,hndj⟩:=ok.hnd j hj
    have hold:=s.qf j hj hjD hju.2
    have hkeepD:∀ n,D.testBit n=true→upd vals i v n=vals n:=fun n hn=>aa _ (fun e=>by subst e;rw [hD] at hn;cases hn)
    have h1:=QF.Rq (D:=D) ok hndj hjD (s.can.closed j hjD) hkeepD hold
    obtain ⟨oj,roj,xlj,gj,hoj,hrj,hkj,hgj,hdej⟩:=VG hndj
    intro oj' roj' xlj' hoj' hrj'
    rw [hoj] at hoj';cases hoj'
    rw [hrj] at hrj';cases hrj'
    have h1':=h1 oj roj xlj hoj hrj
    refine ⟨h1'.1,fun hwj=>?_,h1'.2.2⟩
    cases hre:roj.reads with
    | false=>rw [qvv hre _ (qO w') (qO w)];exact h1'.2.1 hwj
    | true =>
     have hmem:(j,roj,xlj.map (src ops j),gj)∈qyP (List.range ops.size) nd tp D i:=by
      unfold qyP
      rw [List.mem_filterMap]
      refine ⟨j,by simpa using hj,?_⟩
      have hntp:(tp.getD i 0).testBit j=false:=by
       cases h:(tp.getD i 0).testBit j
       ·rfl
       ·rw [hp j h] at hju;cases hju.2
      rw [hdj]
      simp only [Option.bind_some,hdej]
      rw [hjD,h1'.1,hre,hntp]
      rfl
     have hg1:=qzi hrc _ hmem
     have c1:=s.can.add ok hlt hD hpD v ((i,v)::σ) (fun _=>rfl) (fun x e=>by rw [hmv] at e;cases e)
     have hpj:∀ n,(tp.getD j 0).testBit n=true→(D ||| 2 ^ i).testBit n=true:=fun n hn=>c1.closed j (by rw [qL];simp [hjD]) n hn
     have hg2:=(rD (base:=base) ok c1 hj hoj hpj hgj hg1).1 hwj
     rw [tX (base:=base) ok c1 hj hoj hpj hkj] at hg2
     have hmvj:XM ops j=none:=by
      cases hm:XM ops j with
      | none=>rfl
      | some x =>
       obtain ⟨hgn,hop⟩:=Ef hm hoj
       obtain ⟨dst,op,type,pos,after,guard⟩:=oj
       rcases hop with rfl | rfl<;>(simp only [qz] at hrj;obtain ⟨rfl,rfl⟩:=qJ hrj;simp [RO.reads] at hre)
     rw [hg2,c1.sg j (by rw [qL];simp [hjD]) hmvj]
theorem xM (i k:Nat):(2 ^ i - 1).testBit k=decide (k < i):=Nat.testBit_two_pow_sub_one i k
theorem qyf (ok:yQ P ops nd tp qt N) (htp:∀ i,i < ops.size→∀ k,(tp.getD i 0).testBit k=true→k < i) (houts:∀ p∈outs,p.2=src ops ops.size (.tmp p.1)) {w0:World} {Q:Exit→Act→World→Prop}
  (hQ:∀ a' w' L',jn w0 w'→a'.tmps.size=N→a'.defers=[]→(∀ p∈L',a'.tmps.getD p.1 undef=p.2)→K L' (qO w')→Q .normal a' w') :
  ∀ (k i:Nat) (a:Act) (w:World) (σ:Env) (vals:Nat→Value),i+k=ops.size→nd.length=ops.size→jn w0 w→a.tmps.size=N→a.defers=[]→Can ops base tp (2 ^ i - 1) σ vals →
   (∀ t,a.tmps.getD t undef=fv base vals t (xu ops t i))→etP P base (mkS outs (nd.drop i) i) σ (qO w) K→wpList P ops Q (ops.toList.drop i) a w:=by
 intro k
 induction k with
 | zero =>
  intro i a w σ vals hik hlen hs hN hdf c hfr het
  have e:i=ops.size:=by omega
  subst e
  rw [List.drop_eq_nil_of_le (by simp)]
  rw [List.drop_eq_nil_of_le (by omega)] at het
  simp only [mkS,etP] at het
  refine hQ a w _ hs hN hdf (fun p hp=>?_) het
  obtain ⟨q,hq,rfl⟩:=List.mem_map.1 hp
  simp only
  rw [houts q hq,LU (base:=base) ok c (Nat.le_refl _) (fun t j _ hw=>by rw [xM];simpa using (WV hw).1),hfr]
  simp only [opv]
  cases xu ops q.1 ops.size<;>rfl
 | succ k ih =>
  intro i a w σ vals hik hlen hs hN hdf c hfr het
  have hlt:i < ops.size:=by omega
  obtain ⟨d,hd,hnd⟩:=ok.hnd i hlt
  obtain ⟨o,ro,xl,g,ho,hr,hk,hg,hde⟩:=VG hnd
  have hoe:ops.toList.drop i=o::ops.toList.drop (i+1):=by
   rw [List.drop_eq_getElem_cons (by simpa using hlt)]
   congr 1
   rw [Array.getElem?_eq_getElem hlt] at ho
   simpa using ho
  have hde':nd.drop i=d::nd.drop (i+1):=by
   have hl:i < nd.length:=by omega
   rw [List.drop_eq_getElem_cons hl]
   congr 1
   rw [List.getElem?_eq_getElem hl] at hd
   simpa using hd
  rw [hde'] at het
  rw [hoe]
  have hD:(2 ^ i - 1).testBit i=false:=by rw [xM];simp
  have hp:∀ n,(tp.getD i 0).testBit n=true→(2 ^ i - 1).testBit n=true:=fun n hn=>by rw [xM];simpa using htp i hlt n hn
  have hsucc:(2 ^ i - 1) ||| 2 ^ i=2 ^ (i+1) - 1:=by
   apply Nat.eq_of_testBit_eq
   intro n
   rw [qL,xM,xM]
   by_cases e:n=i
   ·subst e;simp
   ·simp only [e,decide_false,Bool.or_false]
    congr 1
    exact propext (by omega)
  have hact:∀ x:Operand,a.eval x=opv ops base vals i x:=fun x=>by
   cases x with
   | tmp t=>simp only [Act.eval,opv];rw [hfr t];cases xu ops t i<;>rfl
   | const v=>rfl
   | global g=>rfl
   | func f=>rfl
  have hargs:xl.map a.eval=xl.map (opv ops base vals i):=List.map_congr_left fun x _=>hact x
  have hwa:Region.wanted o (yielded ops a.tmps)=vG ops base vals i o:=by
   unfold Region.wanted vG
   cases hgu:o.guard with
   | none=>rfl
   | some jw =>
    obtain ⟨j,want⟩:=jw
    simp only
    unfold UR at hg
    simp only [hgu] at hg
    obtain ⟨d',hd',_⟩:=Option.map_eq_some_iff.1 hg
    simp only [hd']
    rw [← hact (.tmp d')]
    have:yielded ops a.tmps j=asB (a.eval (.tmp d')):=by
     unfold yielded
     unfold jd at hd'
     rw [hd']
     simp only [Option.bind_some,Act.eval]
     rcases Nat.lt_or_ge d' a.tmps.size with h | h
     ·simp only [Array.getElem?_eq_getElem h,Array.getD,h,dite_true]
      cases hv:a.tmps[d']<;>simp [asB,hv]
     ·have h1:a.tmps.getD d' undef=undef:=by simp [Array.getD,Nat.not_lt.2 h]
      rw [Array.getElem?_eq_none h,h1];rfl
    rw [this]
  have hnext:∀ (v:Value) (σ1:Env) (w':World),jn w0 w'→(XM ops i=none→σ1=(i,v)::σ)→(∀ x,XM ops i=some x→σ1=σ∧v=opv ops base vals i x) →
    etP P base (mkS outs (nd.drop (i+1)) (i+1)) σ1 (qO w') K→wpList P ops Q (ops.toList.drop (i+1)) (a.put o.dst v) w':=by
   intro v σ1 w' hs' h1 h2 het'
   have c1:=c.add ok hlt hD hp v σ1 h1 h2
   rw [hsucc] at c1
   have hdo:jd ops i=o.dst:=by simp [jd,ho]
   refine ih (i+1) _ w' σ1 (upd vals i v) (by omega) hlen hs' ?_ ?_ c1 (fun t=>?_) het'
   ·cases hdd:o.dst<;>simp [Act.put,hN]
   ·cases hdd:o.dst<;>simp [Act.put,hdf]
   ·simp only [xu,hdo]
    have hold:fv base (upd vals i v) t (xu ops t i)=a.tmps.getD t undef:=by
     rw [hfr t]
     cases hw:xu ops t i with
     | none=>rfl
     | some j=>simp only [fv];exact aa v (by have:=(WV hw).1;omega)
    cases hdd:o.dst with
    | none=>simp only [Act.put,reduceCtorEq,if_false];exact hold.symm
    | some dd =>
     have hdN:=ok.hdst i dd (by rw [hdo];exact hdd)
     by_cases e:dd=t
     ·subst e
      simp only [Act.put,if_true,fv,XD]
      have:dd < a.tmps.size:=by rw [hN];exact hdN
      simp [this]
     ·rw [if_neg (fun h=>e (Option.some.inj h)),hold]
      simp only [Act.put]
      simp [Array.getElem?_setIfInBounds_ne e]
  unfold wpList
  rw [hwa]
  cases hm:XM ops i with
  | some x =>
   have hmv:d.mv=true:=by rw [hde];simp [hm]
   simp only [mkS,hmv,if_true] at het
   obtain ⟨hgn,hop⟩:=Ef hm ho
   have hwt:vG ops base vals i o=true:=by simp [vG,hgn]
   rw [hwt]
   simp only [if_true]
   left
   have hrun:(execOp a.eval o).run P w=.ok (.value (a.eval x)) w:=by
    rcases hop with e | e<;>simp [execOp,e]
   unfold Oper.wp
   rw [hrun]
   simp only [Oper.upon]
   exact hnext _ σ w hs (fun e=>by rw [hm] at e;cases e) (fun x' e=>by rw [hm] at e;cases e;exact ⟨rfl,hact x⟩) het
  | none =>
   have hmv:d.mv=false:=by rw [hde];simp [hm]
   have h1:∀ v,(XM ops i=none→((i,v)::σ)=(i,v)::σ):=fun _ _=>rfl
   have h2:∀ v x,XM ops i=some x→((i,v)::σ)=σ∧v=opv ops base vals i x:=fun _ x e=>by rw [hm] at e;cases e
   simp only [mkS,hmv,Bool.false_eq_true,if_false] at het
   cases hq:ro.quiet with
   | true =>
    have hq':d.ro.quiet=true:=by rw [hde];exact hq
    simp only [hq',if_true,etP] at het
    rw [hde] at het
    simp only at het
    have hgw:=rD (base:=base) ok c hlt ho hp hg het
    have hav:=tX (base:=base) ok c hlt ho hp hk
    cases hw:vG ops base vals i o with
    | true =>
     simp only [if_true]
     left
     obtain ⟨v,hv,het'⟩:=hgw.1 hw
     rw [hav,← hargs] at hv
     have hrun:=IG (w:=w) hr hq hv rfl (fun f=>rfl)
     unfold Oper.wp
     rw [hrun]
     exact hnext v _ w hs (h1 v) (h2 v) het'
    | false =>
     simp only [Bool.false_eq_true,if_false]
     exact hnext undef _ w hs (h1 undef) (h2 undef) (hgw.2 hw)
   | false =>
    have hq':d.ro.quiet=false:=by rw [hde];exact hq
    simp only [hq',Bool.false_eq_true,if_false,etP] at het
    rw [hde] at het
    simp only at het
    have hgw:=rD (base:=base) ok c hlt ho hp hg het
    have hav:=tX (base:=base) ok c hlt ho hp hk
    cases hw:vG ops base vals i o with
    | true =>
     simp only [if_true]
     left
     have hxs:=hgw.1 hw
     rw [hav,← hargs] at hxs
     have hst:=qZO hr hq hxs (fun f=>rfl)
     exact AJ hst fun v w' hs' ⟨_,het'⟩=>hnext v _ w' (hs.trans hs') (h1 v) (h2 v) het'
    | false =>
     simp only [Bool.false_eq_true,if_false]
     exact hnext undef _ w hs (h1 undef) (h2 undef) (hgw.2 hw)
end sim
end Go.Fw
namespace Go.Fw
def backB (ops:Array Oper):Bool:=(List.range ops.size).all fun i=>match ops[i]? with | some o=>o.after.toList.all fun e=>!Region.binds .any e || decide (e.on < i) | none=>true
def apB (ops:Array Oper) (tp:List Nat):Bool :=
 (List.range ops.size).all fun j=>(List.range j).all fun i=>(tp.getD j 0).testBit i || (match ops[i]?,ops[j]? with | some x,some y=>x.apart ops y | _,_=>true)
def dstB (ops:Array Oper) (N:Nat):Bool:=(List.range ops.size).all fun i=>match jd ops i with | some d=>decide (d < N) | none=>true
def MJ (P:Program) (N:Nat) (ops:Array Oper) (draw:Bool) (live:List Nat):Option ET :=
 ((List.range ops.size).mapM (qxw P ops)).bind fun nd =>
  if dstB ops N then
   if draw then
    if backB ops && apB ops (tps ops.toList []) then
     some (mkT (List.range ops.size) nd (tps ops.toList []) (nd.map (·.ro.quiet)) (live.map fun t=>(t,src ops ops.size (.tmp t))) (2*ops.size+2) 0)
    else none
   else some (mkS (live.map fun t=>(t,src ops ops.size (.tmp t))) nd 0)
  else none
theorem qzQ:∀ (l:List Oper) (acc:List Nat),(tps l acc).length=acc.length+l.length
 | [],acc=>by simp [tps]
 | o::r,acc=>by simp [tps,qzQ r];omega
theorem LN:∀ (l:List Oper) (acc:List Nat) (i:Nat),i < acc.length→(tps l acc).getD i 0=acc.getD i 0
 | [],acc,i,h=>rfl
 | o::r,acc,i,h=>by
  rw [tps,LN r _ i (by simp;omega)]
  simp [List.getElem?_append_left h]
theorem qkK:∀ (l:List Oper) (acc:List Nat) (i:Nat) (o:Oper),l[i]?=some o→(tps l acc).getD (acc.length+i) 0=mW ((tps l acc).take (acc.length+i)) o
 | [],acc,i,o,h=>by simp at h
 | o::r,acc,0,o',h=>by
  simp only [List.getElem?_cons_zero,Option.some.injEq] at h
  subst h
  have h1:=LN r (acc++[mW acc o]) acc.length (by simp)
  simp only [tps,Nat.add_zero]
  rw [h1]
  have h2:(tps r (acc++[mW acc o])).take acc.length=acc:=by
   apply List.ext_getElem?
   intro n
   rw [List.getElem?_take]
   split
   ·rename_i hn
    have h3:=LN r (acc++[mW acc o]) n (by simp;omega)
    have hl:n < (tps r (acc++[mW acc o])).length:=by rw [qzQ];simp;omega
    rw [List.getD_eq_getElem?_getD,List.getElem?_eq_getElem hl,List.getD_eq_getElem?_getD,List.getElem?_append_left hn,List.getElem?_eq_getElem hn] at h3
    simp only [Option.getD_some] at h3
    rw [List.getElem?_eq_getElem hl,List.getElem?_eq_getElem hn,h3]
   ·rename_i hn
    rw [List.getElem?_eq_none (by omega)]
  rw [h2]
  simp
 | o::r,acc,i+1,o',h=>by
  have:=qkK r (acc++[mW acc o]) i o' (by simpa using h)
  simp only [List.length_append,List.length_cons,List.length_nil] at this
  simp only [tps]
  rw [show acc.length+(i+1)=acc.length+(0+1)+i from by omega]
  exact this
theorem Dw {acc:List Nat} {k:Nat}:∀ (es:List Edge) (s0:Nat),(es.foldl (fun s e=>if Region.binds .any e then s ||| 2 ^ e.on ||| acc.getD e.on 0 else s) s0).testBit k=true →
  s0.testBit k=true∨∃ e∈es,Region.binds .any e=true∧(k=e.on∨(acc.getD e.on 0).testBit k=true)
 | [],s0,h=>.inl h
 | e::r,s0,h=>by
  simp only [List.foldl_cons] at h
  rcases Dw r _ h with h' | ⟨e',he',hb⟩
  ·split at h'
   ·rename_i hb
    rw [Nat.testBit_or,qL] at h'
    simp only [Bool.or_eq_true,decide_eq_true_eq] at h'
    rcases h' with (h' | h') | h'
    ·exact .inl h'
    ·exact .inr ⟨e,List.mem_cons_self ..,hb,.inl h'⟩
    ·exact .inr ⟨e,List.mem_cons_self ..,hb,.inr h'⟩
   ·exact .inl h'
  ·exact .inr ⟨e',List.mem_cons_of_mem _ he',hb⟩
theorem mapM_some {α β:Type} {f:α→Option β}:∀ {l:List α} {r:List β},l.mapM f=some r→r.length=l.length∧∀ (i:Nat) (a:α),l[i]?=some a→∃ b,r[i]?=some b∧f a=some b
 | [],r,h=>by simp only [List.mapM_nil,pure,Option.some.injEq] at h;subst h;simp
 | a::l,r,h=>by
  simp only [List.mapM_cons,bind,pure,Option.bind_eq_some_iff,Option.some.injEq] at h
  obtain ⟨b,hb,r',hr',rfl⟩:=h
  have ih:=mapM_some hr'
  refine ⟨by simp [ih.1],fun i x hx=>?_⟩
  cases i with
  | zero=>simp only [List.getElem?_cons_zero,Option.some.injEq] at hx ⊢;subst hx;exact ⟨b,rfl,hb⟩
  | succ i=>simp only [List.getElem?_cons_succ] at hx ⊢;exact ih.2 i x hx
theorem Py {P:Program} {N:Nat} {ops:Array Oper} {nd:List Nd} {tp:List Nat} (hnd:(List.range ops.size).mapM (qxw P ops)=some nd) (hd:dstB ops N=true)
  (hap:∀ i j oi oj,i < j→ops[i]?=some oi→ops[j]?=some oj→(tp.getD j 0).testBit i=true∨oi.apart ops oj=true):yQ P ops nd tp (nd.map (·.ro.quiet)) N:=by
 obtain ⟨hlen,hall⟩:=mapM_some hnd
 refine ⟨hap,fun i hi=>?_,fun i d hi hd'=>?_,fun i d hd'=>?_⟩
 ·obtain ⟨b,hb,hf⟩:=hall i i (by rw [List.getElem?_range hi])
  exact ⟨b,hb,hf⟩
 ·simp [hd']
 ·have hi:i < ops.size:=by
   unfold jd at hd'
   obtain ⟨o,ho,_⟩:=Option.bind_eq_some_iff.1 hd'
   exact (Array.getElem?_eq_some_iff.1 ho).1
  have:=List.all_eq_true.1 hd i (by simpa using hi)
  simpa [hd'] using this
theorem qxl {ops:Array Oper} {N:Nat} {a:Act} (hN:a.tmps.size=N) (hd:a.defers=[]) (vals:Nat→Value) :
  Fri ops (fun t=>a.tmps.getD t undef) N (Array.replicate ops.size false) a vals:=by
 refine ⟨hN,hd,fun t=>?_⟩
 have:∀ n,lkW ops (Array.replicate ops.size false) t n=none:=by
  intro n
  induction n with
  | zero=>rfl
  | succ k ih =>
   simp only [lkW,ih]
   rw [if_neg]
   rintro ⟨_,h⟩
   simp only [Array.getD_eq_getD_getElem?,Array.getElem?_replicate] at h
   split at h<;>simp at h
 rw [this];rfl
theorem MZ {P:Program} {N:Nat} {ops:Array Oper} {draw:Bool} {live:List Nat} {et:ET} (h:MJ P N ops draw live=some et) (hm:P.follows .mixedOrders=true)
  {K:Env→Mem→Prop} {w:World} {a:Act} {Q:Exit→Act→World→Prop} {id:Nat} (hN:a.tmps.size=N) (hdf:a.defers=[])
  (hQ:∀ a' w' L',jn w w'→a'.tmps.size=N→a'.defers=[]→(∀ p∈L',a'.tmps.getD p.1 undef=p.2)→K L' (qO w')→Q .normal a' w')
  (het:etP P (fun t=>a.tmps.getD t undef) et [] (qO w) K):(Code.region id ops draw).wp P Q a w:=by
 unfold MJ at h
 obtain ⟨nd,hnd,h⟩:=Option.bind_eq_some_iff.1 h
 split at h
 case isFalse=>cases h
 rename_i hdst
 have houts:∀ p∈live.map fun t=>(t,src ops ops.size (.tmp t)),p.2=src ops ops.size (.tmp p.1):=fun p hp=>by
  obtain ⟨t,_,rfl⟩:=List.mem_map.1 hp;rfl
 cases draw with
 | true =>
  simp only [if_true] at h
  split at h
  case isFalse=>cases h
  rename_i hc
  simp only [Option.some.injEq] at h
  subst h
  simp only [Bool.and_eq_true] at hc
  obtain ⟨hback,hap⟩:=hc
  have ok:=Py (P:=P) (N:=N) (tp:=tps ops.toList []) hnd hdst (fun i j oi oj hij hi hj=>by
   have hj':j < ops.size:=(Array.getElem?_eq_some_iff.1 hj).1
   have:=List.all_eq_true.1 (List.all_eq_true.1 hap j (by simpa using hj')) i (by simpa using hij)
   simp only [hi,hj,Bool.or_eq_true] at this
   exact this)
  have dr:qJQ ops (tps ops.toList []):=by
   constructor
   ·intro i o ho e he hb
    have hi:i < ops.size:=(Array.getElem?_eq_some_iff.1 ho).1
    have:=List.all_eq_true.1 hback i (by simpa using hi)
    simp only [ho] at this
    have:=List.all_eq_true.1 this e (by simpa using he)
    simpa [hb] using this
   ·intro i o ho k hk
    have h1:=qkK ops.toList [] i o (by simpa using ho)
    simp only [List.length_nil,Nat.zero_add] at h1
    rw [h1] at hk
    rcases Dw _ _ hk with h2 | ⟨e,he,hb,h2⟩
    ·simp at h2
    ·refine ⟨e,by simpa using he,hb,h2.imp (fun h=>h) fun h3=>?_⟩
     rw [List.getD_eq_getElem?_getD,List.getElem?_take] at h3
     split at h3
     ·rw [List.getD_eq_getElem?_getD];exact h3
     ·simp at h3
  refine wp_region_any hm ?_
  have c0:Can ops (fun t=>a.tmps.getD t undef) (tps ops.toList []) 0 [] (fun _=>undef):=⟨fun i hi=>by simp at hi,fun i hi=>by simp at hi,fun i x hi=>by simp at hi⟩
  obtain ⟨f',D',σ',vals',c',hq',het',_,hn'⟩:=advance ok _ 0 [] (fun _=>undef) (qO w) c0 het
  refine sim ok dr houts (w0:=w) hQ ops.size _ a _ f' D' σ' vals' ⟨List.range ops.size,by simp,fun i hi _=>by simpa using hi⟩ (IF w _ (Nat.le_succ _)) ?_ het'
  have hlist:∀ i,(Array.replicate ops.size false).getD i false=false:=fun i=>by
   simp only [Array.getD_eq_getD_getElem?,Array.getElem?_replicate]
   split<;>rfl
  refine ⟨c',hq',by simp,(fun j hj=>by rw [hlist] at hj;cases hj),(fun j hj=>by rw [hlist] at hj;cases hj),fun i hi hD _=>?_,fun i hi hD _=>?_,qxl hN hdf vals'⟩
  ·rcases hn' i hD with h0 | hqf
   ·simp at h0
   ·obtain ⟨d,hd,hndo⟩:=ok.hnd i hi
    obtain ⟨o,ro,xl,g,ho,hr,_,_,hde⟩:=VG hndo
    rw [List.getD_eq_getElem?_getD,ok.hqt i d hi hd,hde]
    simpa using (hqf o ro xl ho hr).1
  ·rcases hn' i hD with h0 | hqf
   ·simp at h0
   ·exact hqf
 | false =>
  simp only [Bool.false_eq_true,if_false,Option.some.injEq] at h
  subst h
  let tp:=(List.range ops.size).map fun i=>2 ^ i - 1
  have htp:∀ j,j < ops.size→tp.getD j 0=2 ^ j - 1:=fun j hj=>by
   simp only [tp,List.getD_eq_getElem?_getD,List.getElem?_map,List.getElem?_range hj];rfl
  have ok:=Py (P:=P) (N:=N) (tp:=tp) hnd hdst (fun i j oi oj hij hi hj=>.inl (by
   have hj':j < ops.size:=(Array.getElem?_eq_some_iff.1 hj).1
   rw [htp j hj',xM];simpa using hij))
  refine wp_region_list ?_
  have c0:Can ops (fun t=>a.tmps.getD t undef) tp (2 ^ 0 - 1) [] (fun _=>undef):=⟨fun i hi=>by simp at hi,fun i hi=>by simp at hi,fun i x hi=>by simp at hi⟩
  have:=qyf ok (fun i hi k hk=>by rw [htp i hi,xM] at hk;simpa using hk) houts (w0:=w) hQ ops.size 0 a w [] (fun _=>undef) (by simp) (by
   have:=(mapM_some hnd).1;simpa using this) (jn.oU w) hN hdf c0 (fun t=>rfl) (by simpa using het)
  simpa using this
def X.used:X→List Nat
 | .qq t=>[t]
 | _=>[]
def FH:Gd→List Nat
 | some (x,_)=>x.used
 | none=>[]
def fN (l:List X):List Nat:=l.flatMap X.used
def ET.used:ET→List Nat
 | .out outs=>outs.flatMap fun p=>p.2.used
 | .fail | .tt=>[]
 | .q _ _ args g k=>fN args++FH g++k.used
 | .x _ _ args g rc k=>fN args++FH g++(rc.flatMap fun r=>fN r.2.2.1++FH r.2.2.2)++k.used
 | .both a b=>a.used++b.used
section congr
variable {L L':Nat→Value}
theorem FM {x:X} (h:∀ t∈x.used,L t=L' t) (σ:Env):x.ev L σ=x.ev L' σ:=by
 cases x<;>first | rfl | exact h _ (List.mem_singleton.2 rfl)
theorem cX {l:List X} (h:∀ t∈fN l,L t=L' t) (σ:Env):l.map (X.ev L σ)=l.map (X.ev L' σ) :=
 List.map_congr_left fun x hx=>FM (fun t ht=>h t (List.mem_flatMap.2 ⟨x,hx,ht⟩)) σ
theorem FI {g:Gd} (h:∀ t∈FH g,L t=L' t) {σ:Env} {y n y' n':Prop} (hy:y→y') (hn:n→n') (hh:gP L σ g y n):gP L' σ g y' n':=by
 cases g with
 | none=>exact hy hh
 | some xw =>
  obtain ⟨x,w⟩:=xw
  simp only [gP] at hh ⊢
  rw [FM (L:=L) (L':=L') h σ] at hh
  exact ⟨fun e=>hy (hh.1 e),fun e=>hn (hh.2 e)⟩
theorem IM {σ:Env} {m:Mem}:∀ {l:List (Nat×RO×List X×Gd)},(∀ t∈l.flatMap (fun r=>fN r.2.2.1++FH r.2.2.2),L t=L' t)→rcP L σ m l→rcP L' σ m l
 | [],_,h=>h
 | (i,ro,args,g)::r,hu,h=>by
  simp only [List.flatMap_cons,List.mem_append] at hu
  simp only [rcP] at h ⊢
  rw [cX (L:=L) (L':=L') (fun t ht=>hu t (.inl (.inl ht))) σ] at h
  exact ⟨FI (fun t ht=>hu t (.inl (.inr ht))) (fun h=>h) (fun h=>h) h.1,IM (fun t ht=>hu t (.inr ht)) h.2⟩
section
variable {K K':Value→Mem→Prop} {m:Mem} (hk:∀ v m,K v m→K' v m)
include hk
theorem qyb {A:Prop} {o:Option Mem} {v:Value} (h:A∧∃ m',o=some m'∧K v m'):A∧∃ m',o=some m'∧K' v m':=⟨h.1,h.2.elim fun m' h2=>⟨m',h2.1,hk _ _ h2.2⟩⟩
theorem qvi {ag:Bool} {ks:List LK} {r:Option Nat} {k v:Value} (h:∃ b,r=some b∧qXF ag ks m K b k v):∃ b,r=some b∧qXF ag ks m K' b k v:=by
 obtain ⟨b,e,h1,es,cl,hm,o,hf,h⟩:=h
 refine ⟨b,e,h1,es,cl,hm,o,hf,?_⟩
 revert h
 cases o with
 | none=>exact hk _ _
 | some iv=>exact hk _ _
theorem qwY {ag:Bool} {ks:List LK} {r:Option Nat} {k:Value} (h:qKf ag ks m K k r):qKf ag ks m K' k r:=by
 cases r with
 | none=>exact ⟨h.1,hk _ _ h.2⟩
 | some r =>
  obtain ⟨h1,es,cl,hm,o,hf,h⟩:=h
  refine ⟨h1,es,cl,hm,o,hf,?_⟩
  revert h
  cases o with
  | none=>exact hk _ _
  | some iv=>exact hk _ _
theorem qwi {zero:List Value} {a:Option Addr} {n c:Nat} (h:qZi zero m K a n c):qZi zero m K' a n c:=by
 cases a with
 | none=>exact hk _ _ h
 | some a=>obtain ⟨m',e,h⟩:=h;exact ⟨m',e,hk _ _ h⟩
theorem qvl {a:Option Addr} {n c:Nat} (h:qXG m K a n c):qXG m K' a n c:=by
 cases a with
 | none=>exact h
 | some a=>obtain ⟨arr,t,fr,h1,h2,h3⟩:=h;exact ⟨arr,t,fr,h1,h2,hk _ _ h3⟩
theorem qxG {r:Option Nat} (h:qwh m K r):qwh m K' r:=by
 cases r with
 | none=>exact hk _ _ h
 | some r=>obtain ⟨es,cl,hm,h⟩:=h;exact ⟨es,cl,hm,hk _ _ h⟩
theorem qkL {r:Option Nat} (h:qJE m K r):qJE m K' r:=by
 cases r with
 | none=>exact fun b hb=>hk _ _ (h b hb)
 | some r=>obtain ⟨es,cl,hm,h⟩:=h;exact ⟨es,cl,hm,fun b hb=>hk _ _ (h b hb)⟩
theorem qve {a:Addr} (h:qQK m K a):qQK m K' a:=by
 obtain ⟨h0,r,s,se,l,hm,h⟩:=h
 refine ⟨h0,r,s,se,l,hm,?_⟩
 revert h
 cases r with
 | none=>exact hk _ _
 | some b=>exact fun ⟨es,cl,h1,h2,h3,h4⟩=>⟨es,cl,h1,h2,fun h=>hk _ _ (h3 h),fun e he hs=>hk _ _ (h4 e he hs)⟩
end
theorem qwR {P:Program} {ro:RO} {args:List Value} {m:Mem} {K K':Value→Mem→Prop} (hk:∀ v m,K v m→K' v m) (h:xs P ro args m K):xs P ro args m K':=by
  unfold xs at *
  split at h<;>first
    | exact h.elim
    | (first
         | exact MC.mono h hk
         | exact fun b hb=>hk _ _ (h b hb)
         | exact Yv (fun _ _ _=>qvl hk) h
         | exact Yv (fun _ _ _ h=>NV (fun _ ⟨h0,h1,h2⟩=>⟨h0,h1,Ay hk h2⟩) h) h
         | (obtain ⟨l,hl,h⟩:=h;exact ⟨l,hl,fun b hb=>hk _ _ (h b hb)⟩)
         | exact qzt (fun a=>qyb hk) h
         | exact NV (fun n=>NV fun c ⟨h0,h1,h2,h3,h4⟩=>⟨h0,h1,h2,h3,fun b hb=>hk _ _ (h4 b hb)⟩) h
         | (refine Yv (fun base n cap=>Yv fun b k c hh=>?_) h;obtain ⟨news,e,hh⟩:=hh;exact ⟨news,e,Ay hk hh⟩)
         | exact Yv (fun base n cap=>qzq fun s h=>Ay hk h) h
         | (refine Yv (fun base n cap=>Yv fun b k c hh=>?_) h;obtain ⟨cells,e,hh⟩:=hh;refine ⟨cells,e,?_⟩
            cases base with
            | none=>exact hk _ _ hh
            | some a=>obtain ⟨m',e',h'⟩:=hh;exact ⟨m',e',hk _ _ h'⟩)
         | exact qQI (fun f a c h=>⟨h.1,MC.mono h.2 hk⟩) h
         | exact Ct (fun r=>qvi hk) h
         | exact Ct (fun r=>qwY hk) h
         | exact Yv (fun a n c=>qwi hk) h
         | exact Ct (fun r=>qxG hk) h
         | exact Ct (fun r=>qkL hk) h
         | exact qzt (fun a=>qve hk) h
         | exact qzq (fun s h c b hc hb=>hk _ _ (h c b hc hb)) h)
theorem Xo {P:Program} {K:Env→Mem→Prop}:∀ (et:ET) (σ:Env) (m:Mem),(∀ t∈et.used,L t=L' t)→etP P L et σ m K→etP P L' et σ m K
 | .out outs,σ,m,hu,h=>by
  simp only [etP] at h ⊢
  have:(outs.map fun p=>(p.1,p.2.ev L σ))=outs.map fun p=>(p.1,p.2.ev L' σ):=List.map_congr_left fun p hp=>by
   rw [FM (L:=L) (L':=L') (fun t ht=>hu t (List.mem_flatMap.2 ⟨p,hp,ht⟩)) σ]
  rw [this] at h;exact h
 | .fail,_,_,_,h=>h
 | .tt,_,_,_,h=>h
 | .q i ro args g k,σ,m,hu,h=>by
  simp only [ET.used,List.mem_append] at hu
  simp only [etP] at h ⊢
  rw [cX (L:=L) (L':=L') (fun t ht=>hu t (.inl (.inl ht))) σ] at h
  refine FI (fun t ht=>hu t (.inl (.inr ht))) ?_ ?_ h
  ·rintro ⟨v,hv,hk⟩;exact ⟨v,hv,Xo k _ m (fun t ht=>hu t (.inr ht)) hk⟩
  ·exact Xo k _ m (fun t ht=>hu t (.inr ht))
 | .x i ro args g rc k,σ,m,hu,h=>by
  simp only [ET.used,List.mem_append] at hu
  simp only [etP] at h ⊢
  rw [cX (L:=L) (L':=L') (fun t ht=>hu t (.inl (.inl (.inl ht)))) σ] at h
  refine FI (fun t ht=>hu t (.inl (.inl (.inr ht)))) ?_ ?_ h
  ·exact qwR fun v m' ⟨h1,h2⟩=>⟨IM (fun t ht=>hu t (.inl (.inr ht))) h1,Xo k _ m' (fun t ht=>hu t (.inr ht)) h2⟩
  ·exact Xo k _ m (fun t ht=>hu t (.inr ht))
 | .both a b,σ,m,hu,h=>by
  simp only [ET.used,List.mem_append] at hu
  exact ⟨Xo a σ m (fun t ht=>hu t (.inl ht)) h.1,Xo b σ m (fun t ht=>hu t (.inr ht)) h.2⟩
end congr
end Go.Fw
namespace Go.Fw
inductive NC where
 | skip
 | reg (et:ET) (ins:List Nat)
 | seq (a b:NC)
 | cond (x:X) (a b:NC)
 | block (id:Nat) (c:NC)
 | loop (ks:List Nat) (c:NC)
 | exit (id:Nat)
 | ret
 deriving Inhabited
def qqS (t:Nat):List Nat→List Nat
 | []=>[t]
 | u::r=>if t < u then t::u::r else if t=u then u::r else u::qqS t r
def unS (a b:List Nat):List Nat:=a.foldl (fun s t=>qqS t s) b
def delS (t:Nat) (l:List Nat):List Nat:=l.filter (· != t)
def tmpsOf (l:List Operand):List Nat:=l.filterMap fun | .tmp t=>some t | _=>none
def qXA (ops:Array Oper) (o:Oper) (lo:List Nat):List Nat :=
 unS (o.looksAt ops) (match o.dst with | some d=>delS d lo | none=>lo)
def cW (rets:List Nat):Code→List Nat→List (Nat×List Nat)→List Nat
 | .skip,lo,_=>lo
 | .region _ ops _,lo,_=>ops.toList.foldr (qXA ops) lo
 | .seq a b,lo,ex=>cW rets a (cW rets b lo ex) ex
 | .cond c a b,lo,ex=>unS (tmpsOf [c]) (unS (cW rets a lo ex) (cW rets b lo ex))
 | .block id c,lo,ex=>cW rets c lo ((id,lo)::ex)
 | .loop c,_,ex=>cW rets c [] ex
 | .exit id,_,ex=>(ex.lookup id).getD []
 | .ret,_,_=>rets
 | _,lo,_=>lo
def comp (P:Program) (N:Nat) (rets:List Nat):Code→List Nat→List (Nat×List Nat)→Option (NC×List Nat)
 | .skip,lo,_=>some (.skip,lo)
 | .region _ ops draw,lo,_=>(MJ P N ops draw lo).map fun et=>(.reg et (unS et.used []),unS et.used [])
 | .seq a b,lo,ex=>(comp P N rets b lo ex).bind fun rb=>(comp P N rets a rb.2 ex).map fun ra=>(.seq ra.1 rb.1,ra.2)
 | .cond c a b,lo,ex=>(comp P N rets a lo ex).bind fun ra=>(comp P N rets b lo ex).bind fun rb =>
  match c with
  | .tmp t=>some (.cond (.qq t) ra.1 rb.1,qqS t (unS ra.2 rb.2))
  | .const v=>some (.cond (.const v) ra.1 rb.1,unS ra.2 rb.2)
  | _=>none
 | .block id c,lo,ex=>(comp P N rets c lo ((id,lo)::ex)).map fun rc=>(.block id rc.1,rc.2)
 | .loop c,_,ex=>(comp P N rets c (cW rets c [] ex) ex).map fun rc=>(.loop (cW rets c [] ex) rc.1,cW rets c [] ex)
 | .exit id,_,ex=>some (.exit id,(ex.lookup id).getD [])
 | .ret,_,_=>some (.ret,rets)
 | _,_,_=>none
def jY (L:Env) (ks:List Nat):Bool:=ks.all L.has
def only (L:Env) (ks:List Nat):Env:=ks.map fun k=>(k,L.get k)
def OP (next:Env→Mem→Prop) (Q:Exit→Env→Mem→Prop):Exit→Env→Mem→Prop
 | .normal,L,m=>next L m
 | e,L,m=>Q e L m
def an (id:Nat) (Q:Exit→Env→Mem→Prop):Exit→Env→Mem→Prop
 | .exit id',L,m=>if id'=id then Q .normal L m else Q (.exit id') L m
 | e,L,m=>Q e L m
def Da (ks:List Nat) (I:Nat→Env→Mem→Prop) (n:Nat) (Q:Exit→Env→Mem→Prop):Exit→Env→Mem→Prop
 | .normal,L,m=>jY L ks=true∧∃ n',n' < n∧I n' (only L ks) m
 | e,L,m=>Q e L m
def bP (t:Bool) (A B:Prop):Prop:=(t=true→A)∧(t=false→B)
def qjz (v:Value) (A B:Prop):Prop:=∃ t,v=.bool t∧bP t A B
def loopP (ks:List Nat) (body:(Exit→Env→Mem→Prop)→Env→Mem→Prop) (Q:Exit→Env→Mem→Prop) (L:Env) (m:Mem):Prop :=
 jY L ks=true∧∃ I:Nat→Env→Mem→Prop,(∃ n,I n (only L ks) m)∧∀ n L m,I n L m→body (Da ks I n Q) L m
def wpN (P:Program):NC→(Exit→Env→Mem→Prop)→Env→Mem→Prop
 | .skip,Q,L,m=>Q .normal L m
 | .reg et ins,Q,L,m=>jY L ins=true∧etP P L.get et [] m fun L' m'=>Q .normal L' m'
 | .seq a b,Q,L,m=>wpN P a (OP (wpN P b Q) Q) L m
 | .cond x a b,Q,L,m=>jY L x.used=true∧qjz (x.ev L.get []) (wpN P a Q L m) (wpN P b Q L m)
 | .block id c,Q,L,m=>wpN P c (an id Q) L m
 | .loop ks c,Q,L,m=>loopP ks (wpN P c) Q L m
 | .exit id,Q,L,m=>Q (.exit id) L m
 | .ret,Q,L,m=>Q .ret L m
def LD (a:Act) (L:Env):Prop:=∀ t,L.has t=true→a.tmps.getD t undef=L.get t
theorem Ap {a:Act} {L:Env} (h:∀ p∈L,a.tmps.getD p.1 undef=p.2):LD a L:=by
 induction L with
 | nil=>intro t ht;simp [Env.has] at ht
 | cons p r ih =>
  obtain ⟨j,v⟩:=p
  intro t ht
  simp only [Env.get]
  by_cases e:t=j
  ·subst e;rw [if_pos rfl];exact h _ (List.mem_cons_self ..)
  ·rw [if_neg e]
   simp only [Env.has,Bool.or_eq_true,beq_iff_eq,e,false_or] at ht
   exact ih (fun p hp=>h p (List.mem_cons_of_mem _ hp)) t ht
theorem FC {a:Act} {L:Env} {ks:List Nat} (h:LD a L) (hk:jY L ks=true):LD a (only L ks):=by
 apply Ap
 intro p hp
 obtain ⟨k,hk',rfl⟩:=List.mem_map.1 hp
 exact h k (List.all_eq_true.1 hk k hk')
def QQ (N:Nat) (w0:World) (Q:Exit→Env→Mem→Prop) (e:Exit) (a:Act) (w:World):Prop :=
 a.tmps.size=N∧a.defers=[]∧jn w0 w∧∃ L,LD a L∧Q e L (qO w)
theorem PO {t u:Nat}:∀ {l:List Nat},u∈qqS t l↔u=t∨u∈l
 | []=>by simp [qqS]
 | x::r=>by
  simp only [qqS]
  split
  ·simp
  ·split
   ·rename_i h;subst h;simp
   ·simp only [List.mem_cons,PO (l:=r)]
    constructor
    ·rintro (h | h | h)<;>simp [h]
    ·rintro (h | h | h)<;>simp [h]
theorem qzD {u:Nat}:∀ {a b:List Nat},u∈unS a b↔u∈a∨u∈b
 | [],b=>by simp [unS]
 | x::r,b=>by
  have:=qzD (u:=u) (a:=r) (b:=qqS x b)
  simp only [unS,List.foldl_cons] at this ⊢
  rw [this,PO]
  simp only [List.mem_cons]
  constructor
  ·rintro (h | h | h)<;>simp [h]
  ·rintro ((h | h) | h)<;>simp [h]
theorem qqQ {P:Program} {N:Nat} {rets:List Nat} (hm:P.follows .mixedOrders=true):∀ (c:Code) (lo:List Nat) (ex:List (Nat×List Nat)) (nc:NC) (li:List Nat),
  comp P N rets c lo ex=some (nc,li)→∀ (Q:Exit→Env→Mem→Prop) (w0 w:World) (a:Act) (L:Env),a.tmps.size=N→a.defers=[]→jn w0 w→LD a L→wpN P nc Q L (qO w)→c.wp P (QQ N w0 Q) a w:=by
 intro c
 induction c with
 | skip =>
  intro lo ex nc li h Q w0 w a L hN hd hs hk hw
  simp only [comp,Option.some.injEq,Prod.mk.injEq] at h
  obtain ⟨rfl,rfl⟩:=h
  exact wp_skip ⟨hN,hd,hs,L,hk,hw⟩
 | region id ops draw =>
  intro lo ex nc li h Q w0 w a L hN hd hs hk hw
  simp only [comp] at h
  obtain ⟨et,het,h⟩:=Option.map_eq_some_iff.1 h
  obtain ⟨rfl,rfl⟩:=Prod.mk.injEq ..▸h
  obtain ⟨hins,hw⟩:=hw
  refine MZ het hm (K:=fun L' m'=>Q .normal L' m') hN hd (fun a' w' L' hs' hN' hd' hp hK=>⟨hN',hd',hs.trans hs',L',Ap hp,hK⟩) ?_
  refine Xo et [] (qO w) (fun t ht=>?_) hw
  have:=List.all_eq_true.1 hins t (qzD.2 (.inl ht))
  exact (hk t this).symm
 | seq x y ihx ihy =>
  intro lo ex nc li h Q w0 w a L hN hd hs hk hw
  simp only [comp] at h
  obtain ⟨⟨nb,lb⟩,hb,h⟩:=Option.bind_eq_some_iff.1 h
  obtain ⟨⟨na,la⟩,ha,h⟩:=Option.map_eq_some_iff.1 h
  obtain ⟨rfl,rfl⟩:=Prod.mk.injEq ..▸h
  refine wp_seq (wp_mono (ihx _ _ _ _ ha _ w0 w a L hN hd hs hk hw) ?_)
  intro e a' w' ⟨hN',hd',hs',L',hk',hq⟩
  cases e with
  | normal=>exact ihy _ _ _ _ hb Q w0 w' a' L' hN' hd' hs' hk' hq
  | _=>exact ⟨hN',hd',hs',L',hk',hq⟩
 | cond c x y ihx ihy =>
  intro lo ex nc li h Q w0 w a L hN hd hs hk hw
  simp only [comp] at h
  obtain ⟨⟨na,la⟩,ha,h⟩:=Option.bind_eq_some_iff.1 h
  obtain ⟨⟨nb,lb⟩,hb,h⟩:=Option.bind_eq_some_iff.1 h
  have key:∀ xx:X,jY L xx.used=true→qjz (xx.ev L.get []) (wpN P na Q L (qO w)) (wpN P nb Q L (qO w))→a.eval c=xx.ev L.get []→(Code.cond c x y).wp P (QQ N w0 Q) a w:=by
   rintro xx - ⟨t,ht,hb'⟩ he
   refine wp_cond_split (t:=t) (he.trans ht) (fun e=>?_) (fun e=>?_)
   ·exact ihx _ _ _ _ ha Q w0 w a L hN hd hs hk (hb'.1 e)
   ·exact ihy _ _ _ _ hb Q w0 w a L hN hd hs hk (hb'.2 e)
  cases c with
  | tmp t =>
   simp only [Option.some.injEq,Prod.mk.injEq] at h
   obtain ⟨rfl,rfl⟩:=h
   refine key _ hw.1 hw.2 ?_
   have h1:L.has t=true:=List.all_eq_true.1 hw.1 t (by simp [X.used])
   exact hk t h1
  | const v =>
   simp only [Option.some.injEq,Prod.mk.injEq] at h
   obtain ⟨rfl,rfl⟩:=h
   exact key _ hw.1 hw.2 rfl
  | global g=>simp at h
  | func g=>simp at h
 | block id x ih =>
  intro lo ex nc li h Q w0 w a L hN hd hs hk hw
  simp only [comp] at h
  obtain ⟨⟨na,la⟩,ha,h⟩:=Option.map_eq_some_iff.1 h
  obtain ⟨rfl,rfl⟩:=Prod.mk.injEq ..▸h
  refine wp_block (wp_mono (ih _ _ _ _ ha _ w0 w a L hN hd hs hk hw) ?_)
  intro e a' w' ⟨hN',hd',hs',L',hk',hq⟩
  cases e with
  | exit id' =>
   simp only [an] at hq
   simp only [Exit.inBlock]
   split
   ·rename_i e;rw [if_pos e] at hq;exact ⟨hN',hd',hs',L',hk',hq⟩
   ·rename_i e;rw [if_neg e] at hq;exact ⟨hN',hd',hs',L',hk',hq⟩
  | _=>exact ⟨hN',hd',hs',L',hk',hq⟩
 | loop x ih =>
  intro lo ex nc li h Q w0 w a L hN hd hs hk hw
  simp only [comp] at h
  obtain ⟨⟨na,la⟩,ha,h⟩:=Option.map_eq_some_iff.1 h
  obtain ⟨rfl,rfl⟩:=Prod.mk.injEq ..▸h
  obtain ⟨hall,I,⟨n0,hI0⟩,hround⟩:=hw
  refine wp_loop_ghost (fun n a w=>a.tmps.size=N∧a.defers=[]∧jn w0 w∧∃ L,LD a L∧I n L (qO w)) n0 ⟨hN,hd,hs,_,FC hk hall,hI0⟩ ?_
  rintro n a1 w1 ⟨hN1,hd1,hs1,L1,hk1,hI1⟩
  refine wp_mono (ih _ _ _ _ ha _ w0 w1 a1 L1 hN1 hd1 hs1 hk1 (hround n L1 _ hI1)) ?_
  intro e a' w' ⟨hN',hd',hs',L',hk',hq⟩
  cases e with
  | normal =>
   obtain ⟨hall',n',hlt,hI'⟩:=hq
   exact ⟨n',hlt,hN',hd',hs',_,FC hk' hall',hI'⟩
  | _=>exact ⟨hN',hd',hs',L',hk',hq⟩
 | exit id =>
  intro lo ex nc li h Q w0 w a L hN hd hs hk hw
  simp only [comp,Option.some.injEq,Prod.mk.injEq] at h
  obtain ⟨rfl,rfl⟩:=h
  exact wp_exit ⟨hN,hd,hs,L,hk,hw⟩
 | ret =>
  intro lo ex nc li h Q w0 w a L hN hd hs hk hw
  simp only [comp,Option.some.injEq,Prod.mk.injEq] at h
  obtain ⟨rfl,rfl⟩:=h
  exact wp_ret ⟨hN,hd,hs,L,hk,hw⟩
 | _=>intro lo ex nc li h;simp [comp] at h
inductive RV where
 | qq (t:Nat)
 | cell (t:Nat)
 | cells (t n:Nat)
 deriving Inhabited
def RV.jB:RV→Nat
 | .qq t | .cell t | .cells t _=>t
def qjA (P:Program):ResultVar→Option RV
 | .tmp t=>some (.qq t)
 | .cell a t=>if QP P t then some (.cell a) else if Qh P t then (P.info? t).map fun i=>.cells a i.size else none
def RV.val (L:Env) (m:Mem):RV→Option Value
 | .qq t=>some (L.get t)
 | .cell t=>rd .ld [L.get t] m
 | .cells t n=>rd (.lda n) [L.get t] m
def yJ (L:Env) (m:Mem):List RV→Option (List Value)
 | []=>some []
 | r::l=>(r.val L m).bind fun v=>(yJ L m l).map (v::·)
def Vn:List Value→Value
 | [v]=>v
 | l=>.tuple l.toArray
def mK:Nat→List Value→Env
 | _,[]=>[]
 | i,v::r=>(i,v)::mK (i+1) r
def vL (rvs:List RV) (R:Value→Mem→Prop):Exit→Env→Mem→Prop
 | .normal,L,m | .ret,L,m=>jY L (rvs.map RV.jB)=true∧∃ vs,yJ L m rvs=some vs∧R (Vn vs) m
 | _,_,_=>False
structure FN where
 code:NC
 rvs:List RV
 deriving Inhabited
def qjj (P:Program) (fn:Func):Option FN :=
 (fn.results.toList.mapM (qjA P)).bind fun rvs=>(fn.body).bind fun c =>
  (comp P fn.ntmps (unS (rvs.map RV.jB) []) c (unS (rvs.map RV.jB) []) []).map fun r=>⟨r.1,rvs⟩
theorem Ol:∀ (l:List Value) (i t:Nat),(mK i l).has t=true→i≤t∧l[t - i]?=some ((mK i l).get t)
 | [],i,t,h=>by simp [mK,Env.has] at h
 | v::r,i,t,h=>by
  simp only [mK,Env.has,Bool.or_eq_true,beq_iff_eq] at h
  simp only [mK,Env.get]
  by_cases e:t=i
  ·subst e;simp
  ·rw [if_neg e]
   have:=Ol r (i+1) t (h.resolve_left e)
   refine ⟨by omega,?_⟩
   rw [show t - i=(t - (i+1))+1 from by omega,List.getElem?_cons_succ]
   exact this.2
def qza (tmps:Array Value):ResultVar→Sem Value
 | .tmp t=>pure (tmps.getD t undef)
 | .cell a t=>do loadVar t (← asAddr (tmps.getD a undef))
theorem qJD {P:Program} {rv:ResultVar} {r:RV} (h:qjA P rv=some r) {tmps:Array Value} {L:Env} {w:World} (hk:L.has r.jB=true→tmps.getD r.jB undef=L.get r.jB) (hh:L.has r.jB=true)
  {v:Value} (hv:r.val L (qO w)=some v) :
  (qza tmps rv).run P w=.ok v w:=by
 unfold qza
 cases rv with
 | tmp t =>
  simp only [qjA,Option.some.injEq] at h;subst h
  simp only [RV.val,Option.some.injEq] at hv;subst hv
  simp only [RV.jB] at hk hh
  simp [hk hh]
 | cell a t =>
  simp only [qjA] at h
  split at h
  ·rename_i hp
   simp only [Option.some.injEq] at h;subst h
   simp only [RV.jB] at hk hh
   obtain ⟨ad,hx,e⟩:=cj hv
   simp [hk hh,hx,asAddr,loadVar,fx hp,ab (m:=qO w) rfl e,-run_load]
  ·split at h
   ·rename_i hp
    obtain ⟨i,hi,rfl⟩:=Option.map_eq_some_iff.1 h
    simp only [RV.jB] at hk hh
    obtain ⟨ad,hx,e⟩:=cj hv
    obtain ⟨l,hl,rfl⟩:=Option.map_eq_some_iff.1 e
    simp [hk hh,hx,asAddr,loadVar,uK hp,qn hi,loadCells,run_loadCellsFrom (m:=qO w) rfl ad _ _ _ _ hl]
   ·cases h
theorem qzc {P:Program} {tmps:Array Value} {L:Env} {w:World}:∀ (rs:List ResultVar) (rvs:List RV),rs.mapM (qjA P)=some rvs→(∀ t,L.has t=true→tmps.getD t undef=L.get t)→jY L (rvs.map RV.jB)=true →
  ∀ vs,yJ L (qO w) rvs=some vs→(rs.mapM (qza tmps)).run P w=.ok vs w
 | [],rvs,h,_,_,vs,hv=>by
  simp only [List.mapM_nil,pure,Option.some.injEq] at h;subst h
  simp only [yJ,Option.some.injEq] at hv;subst hv
  rfl
 | rv::rs,rvs,h,hk,hh,vs,hv=>by
  simp only [List.mapM_cons,bind,pure,Option.bind_eq_some_iff,Option.some.injEq] at h
  obtain ⟨r,hr,l,hl,rfl⟩:=h
  simp only [yJ] at hv
  obtain ⟨v,hv1,hv⟩:=Option.bind_eq_some_iff.1 hv
  obtain ⟨vs',hv2,rfl⟩:=Option.map_eq_some_iff.1 hv
  simp only [jY,List.map_cons,List.all_cons,Bool.and_eq_true] at hh
  have h1:=qJD hr (tmps:=tmps) (hk r.jB) hh.1 hv1
  have h2:=qzc rs l hl hk hh.2 vs' hv2
  simp only [List.mapM_cons,Sem.run_bind,h1,Result.andThen_ok,h2,Sem.run_pure]
theorem AV {P:Program} {fn:Func} {rvs:List RV} (h:fn.results.toList.mapM (qjA P)=some rvs) {tmps:Array Value} {L:Env} {w:World} (hk:∀ t,L.has t=true→tmps.getD t undef=L.get t)
  (hh:jY L (rvs.map RV.jB)=true) {vs:List Value} (hv:yJ L (qO w) rvs=some vs):(results fn tmps).run P w=.ok (Vn vs) w:=by
 have hres:results fn tmps=(do let vs ← fn.results.mapM (qza tmps);pure (if h:vs.size=1 then vs[0] else .tuple vs)):=rfl
 rw [hres]
 have:=qzc (P:=P) (w:=w) fn.results.toList rvs h hk hh vs hv
 rw [Array.mapM_eq_mapM_toList]
 simp only [Sem.run_bind,Sem.run_map,this,Result.andThen_ok,Sem.run_pure]
 congr 1
 match vs with
 | []=>rfl
 | [v]=>rfl
 | v::u::r=>simp [Vn]
theorem MC_of {P:Program} {f:Nat} {fn:Func} {F:FN} (hf:P.funcs[f]?=some fn) (hc:qjj P fn=some F) (hm:P.follows .mixedOrders=true) {args:List Value} {m:Mem} {R:Value→Mem→Prop}
  (hn:args.length≤fn.ntmps) (h:wpN P F.code (vL F.rvs R) (mK 0 args) m):MC P f args m R:=by
 unfold qjj at hc
 obtain ⟨rvs,hrv,hc⟩:=Option.bind_eq_some_iff.1 hc
 obtain ⟨c,hb,hc⟩:=Option.bind_eq_some_iff.1 hc
 obtain ⟨⟨nc,li⟩,hcomp,rfl⟩:=Option.map_eq_some_iff.1 hc
 intro w hw
 subst hw
 refine calls_of_wp hf hb ?_
 refine wp_mono (qqQ hm c _ _ nc li hcomp _ w w _ (mK 0 args) ?_ rfl (jn.oU w) ?_ h) ?_
 ·simp;omega
 ·intro t ht
  obtain ⟨_,h1⟩:=Ol args 0 t ht
  have hlt:t < args.length:=(List.getElem?_eq_some_iff.1 h1).1
  simp only [Nat.sub_zero] at h1
  simp only [Array.getD_eq_getD_getElem?]
  rw [Array.getElem?_append_left (by simpa using hlt)]
  simp [h1]
 ·intro e a' w' ⟨hN',hd',hs',L',hk',hq⟩
  cases e with
  | normal =>
   obtain ⟨hh,vs,hv,hR⟩:=hq
   exact ⟨hd',_,AV hrv hk' hh hv,_,rfl,hs',hR⟩
  | ret =>
   obtain ⟨hh,vs,hv,hR⟩:=hq
   exact ⟨hd',_,AV hrv hk' hh hv,_,rfl,hs',hR⟩
  | _=>exact hq.elim
end Go.Fw
