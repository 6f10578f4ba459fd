import Derived.Orders
import Derived.Tactics
import Derived.Laws.Sem
import Derived.Laws.World
import Derived.Laws.Entries
import GoSem.Dispatch
import GoSem.Op.String
import Derived.Laws.Externs
import Derived.ChangeKeysEq
import Derived.Laws.StructEq
import Derived.LaidEql
import GoSem.Extern.SlicesOverlaps
import Derived.Laws.Append
import Derived.Deep.LoopGhost
set_option linter.unusedVariables false
set_option linter.unusedSimpArgs false
set_option maxHeartbeats 16000000
namespace Go.Fw
abbrev Mem:=Nat→Option Obj
def qO(w:World):Mem:=λb=>w.heap[b]?
def Mem.set(m:Mem)(b:Nat)(o:Obj):Mem:=λx=>if x=b then some o else m x
structure jg(w w':World):Prop where
 os:w'.os=w.os
 out:w'.output=w.output
 size:w.heap.size≤w'.heap.size
 tape:w'.tape=w.tape
 drawn:w.drawn≤w'.drawn
theorem jg.nB(w:World):jg w w:=⟨rfl,rfl,Nat.le_refl _,rfl,Nat.le_refl _⟩
theorem jg.trans{a b c:World}(h:jg a b)(g:jg b c):jg a c:=⟨g.os.trans h.os,g.out.trans h.out,Nat.le_trans h.size g.size,g.tape.trans h.tape,Nat.le_trans h.drawn g.drawn⟩
def MC(P:Program)(f:Nat)(args:List Value)(m:Mem)(R:Value→Mem→Prop):Prop :=
 ∀ w,qO w=m→Calls P f args.toArray w λe w'=>∃ v,e=.returned v∧jg w w'∧R v (qO w')
def VJ(P:Program)(g:Nat):Bool:=match P.funcs[g]? with | some fn=>fn.body.isSome && fn.name != "runtime.NumGoroutine" | none=>false
theorem MC.mono{P:Program}{f:Nat}{args:List Value}{m:Mem}{R R':Value→Mem→Prop}(h:MC P f args m R)(hr:∀ v m',R v m'→R' v m'):MC P f args m R' :=
 λw hw=>(h w hw).mono λ_ _ ⟨v,he,hs,hR⟩=>⟨v,he,hs,hr _ _ hR⟩
def cell(m:Mem)(a:Addr):Option Value :=
 match m a.block with
 | some (.cells c _ _)=>if a.spot.isSome then none else c[a.off]?
 | _=>none
theorem PZ(w:World)(a:Addr):cell (qO w) a=w.cell? a:=rfl
def qqq(m:Mem)(a:Addr)(v:Value):Option Mem :=
 match m a.block with
 | some (.cells c t fr)=>if a.spot.isSome || !(a.off < c.size) || (fr.1≤a.off && a.off < fr.2) then none else some (m.set a.block (.cells (c.setIfInBounds a.off v) t fr))
 | _=>none
def jD(m:Mem)(a:Addr):Nat→Nat→Option (List Value)
 | _,0=>some []
 | i,n+1=>(cell m (a.add i)).bind λv=>(jD m a (i+1) n).map (v::·)
def jW(m:Mem)(a:Addr):Nat→List Value→Option Mem
 | _,[]=>some m
 | i,v::r=>if v.oneCell' then (qqq m (a.add i) v).bind λm'=>jW m' a (i+1) r else none
inductive LK where
 | b | i (k:IntKind) | s
 deriving Inhabited,DecidableEq
def le1:LK→Value→Value→Option Bool
 | .b,.bool a,.bool b=>some (a == b)
 | .i k,.int k1 a,.int k2 b=>if k1=k∧k2=k then some (a == b) else none
 | .s,.string a,.string b=>some (a.data.toList == b.data.toList)
 | _,_,_=>none
def qm:List LK→List Value→List Value→Option Bool
 | [],[],[]=>some true
 | k::ks,x::xs,y::ys=>(le1 k x y).bind λb=>(qm ks xs ys).map (b && ·)
 | _,_,_=>none
inductive RO where
 | bad | zid
 | mv | pick | nilck
 | fld (off:Nat)
 | ixs (size:Nat) | ixa (len size:Nat)
 | ld | lda (n:Nat)
 | prt (off:Nat) | prta (off n:Nat)
 | idx (len size:Nat) | idxa (len size:Nat) | idxs
 | bld (zero:List Value) (places:List (Nat×Nat))
 | ext (i:Nat)
 | iar (op:BinOp) | idv (op:BinOp) | ibt (op:BinOp) | ish (op:BinOp) | icm (op:BinOp)
 | beq (ng:Bool) | str (op:BinOp) | eqp (ng:Bool) | eqs (ng:Bool) | eqm (ng:Bool) | eqc (ng:Bool) (ks:List LK)
 | not | neg | cpl
 | conv (k:IntKind)
 | slc (size:Nat) (lo hi:Bool) | slc3 (size:Nat) (lo:Bool) | slcs (lo hi:Bool) | sla (len size:Nat) (lo hi:Bool)
 | len | lenz | lenk (n:Nat) | lenm | cap
 | mn | mx
 | mkf (fn:Fn) (nfirst:Nat) | mki (t:TypeId)
 | lkp (ag:Bool) (ks:List LK) (zero:Value) (ok:Bool)
 | b2s
 | st (n:Nat)
 | alc (zero:List Value) (t:TypeId) | box (t:TypeId)
 | bsl (t:TypeId) (len:Nat) (zero:List Value) (places:List (Nat×Nat))
 | mks (t:TypeId) (bytes:Nat) (zero:List Value)
 | app (t:TypeId) (size bytes:Nat) (zero:List Value)
 | apps (t:TypeId)
 | cpy (size:Nat)
 | mkm
 | mup (ag:Bool) (ks:List LK)
 | dlt (ag:Bool) (ks:List LK)
 | clr (zero:List Value) | clrm
 | rng | nxt | ent
 | s2b (t:TypeId)
 | eqi (ng:Bool) | ixb | eqq (ng:Bool) | ovl (size:Nat)
 | appn (t:TypeId) (size bytes:Nat) (zero:List Value)
 | mrk
 | call (f:Nat)
 | callv
 deriving Inhabited
def RO.quiet:RO→Bool
 | .bad | .st _ | .alc .. | .box _ | .bsl .. | .mks .. | .app .. | .apps _ | .cpy _ | .mkm | .mup .. | .dlt .. | .clr .. | .clrm | .rng | .nxt | .s2b _ | .appn .. | .mrk | .call _ | .callv=>false
 | _=>true
def RO.reads:RO→Bool
 | .ld | .lda _ | .lenm | .lkp .. | .b2s | .ent | .eqi _ | .ixb | .eqq _ | .ovl _=>true
 | _=>false
def cutB(s:ByteArray)(lo hi:Int):Option ByteArray:=if 0≤lo∧lo≤hi∧hi≤s.size then some (s.extract lo.toNat hi.toNat) else none
def xG(size:Nat)(a:Option Addr)(cap:Nat)(lo hi:Int):Option Value :=
 if 0≤lo∧lo≤hi∧hi≤cap then some (.slice (if cap=lo.toNat then a else a.map (·.add (lo.toNat*size))) (hi.toNat - lo.toNat) (cap - lo.toNat)) else none
def vcl:Value→List Value
 | .agg cs=>cs.toList
 | v=>[v]
theorem qzV(v:Value):vcl v=v.cells.toList:=by cases v<;>rfl
def spl:Nat→List Value→List Value→Option (List Value)
 | 0,[],cs=>some cs
 | 0,v::vs,_::cs=>(spl 0 vs cs).map (v::·)
 | n+1,vs,c::cs=>(spl n vs cs).map (c::·)
 | _,_,_=>none
def lay(cells:List Value):List (Nat×Nat)→List Value→Option (List Value)
 | [],[]=>some cells
 | (off,size)::ps,v::vs=>if (vcl v).length=size then (spl off (vcl v) cells).bind λcs=>lay cs ps vs else none
 | _,_=>none
def ldS(m:Mem)(a:Option Addr)(n:Nat):Option (List Value):=match a with | some a=>jD m a 0 n | none=>some []
def i2(f:IntKind→Int→Int→Option Value):Value→Value→Option Value
 | .int k a,.int k' b=>if k=k' then f k a b else none
 | _,_=>none
def j2(f:IntKind→Int→Int→Option Value):Value→Value→Option Value
 | .int k a,.int _ b=>f k a b
 | _,_=>none
def i1(f:IntKind→Int→Option Value):Value→Option Value
 | .int k a=>f k a
 | _=>none
def b2(f:Bool→Bool→Option Value):Value→Value→Option Value
 | .bool a,.bool b=>f a b
 | _,_=>none
def b1(f:Bool→Option Value):Value→Option Value
 | .bool a=>f a
 | _=>none
def p1(f:Addr→Option Value):Value→Option Value
 | .pointer (some a)=>f a
 | _=>none
def g1(f:Array Value→Option Value):Value→Option Value
 | .agg cs=>f cs
 | _=>none
def t1(f:Array Value→Option Value):Value→Option Value
 | .tuple cs=>f cs
 | _=>none
def s1(f:Option Addr→Nat→Nat→Option Value):Value→Option Value
 | .slice a n c=>f a n c
 | _=>none
def z1(f:ByteArray→Option Value):Value→Option Value
 | .string s=>f s
 | _=>none
def z2(f:ByteArray→ByteArray→Option Value):Value→Value→Option Value
 | .string s,.string u=>f s u
 | _,_=>none
def eqp(ng:Bool):Value→Value→Option Value
 | .pointer a,.pointer none=>some (.bool (if ng then a.isSome else a.isNone))
 | _,_=>none
def ch(m:Mem)(b:Nat):Bool:=match m b with
 | some (.cells _ _ (0,0))=>true
 | _=>false
def eqQ(m:Mem)(ng:Bool):Value→Value→Option Value
 | .pointer a,.pointer none=>some (.bool (if ng then a.isSome else a.isNone))
 | .pointer none,.pointer (some _)=>some (.bool ng)
 | .pointer (some a),.pointer (some b)=>if a.block=b.block then some (.bool (if ng then !(a == b) else a == b)) else if ch m a.block && ch m b.block then some (.bool ng) else none
 | _,_=>none
def ovQ(m:Mem)(size:Nat):Value→Value→Option Value
 | .slice (some a) la _,.slice (some b) lb _=>if la=0∨lb=0∨size=0 then some (.bool false)
  else if a.block=b.block then some (.bool (a.off < b.off+lb*size && b.off < a.off+la*size))
  else if ch m a.block && ch m b.block then some (.bool false) else none
 | .slice none _ _,.slice _ _ _=>some (.bool false)
 | .slice (some _) _ _,.slice none _ _=>some (.bool false)
 | _,_=>none
def eqs(ng:Bool):Value→Value→Option Value
 | .slice a _ _,.slice none _ _=>some (.bool (if ng then a.isSome else a.isNone))
 | _,_=>none
def eqm(ng:Bool):Value→Value→Option Value
 | .map a,.map none=>some (.bool (if ng then a.isSome else a.isNone))
 | _,_=>none
def mn2:Value→Value→Option Value
 | .int k a,.int k' b=>if k=k' then some (.int k (if b < a then b else a)) else none
 | .string a,.string b=>some (.string (if Op.bytesLess a.data.toList b.data.toList || a.data.toList == b.data.toList then a else b))
 | _,_=>none
def mx2:Value→Value→Option Value
 | .int k a,.int k' b=>if k=k' then some (.int k (if a < b then b else a)) else none
 | _,_=>none
def bW(f:Value→Value→Option Value):Value→List Value→Option Value
 | v,[]=>some v
 | v,x::r=>(f v x).bind λu=>bW f u r
def qqD(size:Nat)(a:Addr)(cap:Nat)(lo hi:Int):Option Value :=
 if 0≤lo∧lo≤hi∧hi≤cap then some (.slice (some (if cap=lo.toNat then a else a.add (lo.toNat*size))) (hi.toNat - lo.toNat) (cap - lo.toNat)) else none
def qyZ(size:Nat)(a:Option Addr)(cap:Nat)(lo hi mx:Int):Option Value :=
 if 0≤lo∧lo≤hi∧hi≤mx∧mx≤cap then some (.slice (if mx.toNat=lo.toNat then a else a.map (·.add (lo.toNat*size))) (hi.toNat - lo.toNat) (mx.toNat - lo.toNat)) else none
def qqC(s:ByteArray)(lo hi:Int):Option Value:=(cutB s lo hi).map .string
def ixB(x y:Value):Option Value:=match x,y with | .string s,.int .u8 c=>some (.int .i64 (firstIdx s c.toNat.toUInt8)) | _,_=>none
theorem qwe{x y v:Value}(h:ixB x y=some v):∃ s c,x=.string s∧y=.int .u8 c∧v=.int .i64 (firstIdx s c.toNat.toUInt8):=by
 unfold ixB at h
 split at h
 ·exact ⟨_,_,rfl,rfl,by simpa using h.symm⟩
 ·cases h
def eqI(ng:Bool)(x y:Value):Option Value:=match x,y with | .nilIface,.nilIface=>some (.bool (!ng)) | .iface _ _,.nilIface=>some (.bool ng) | _,_=>none
theorem TL{ng:Bool}{x y v:Value}(h:eqI ng x y=some v):y=.nilIface∧((x=.nilIface∧v=.bool (!ng))∨((∃ t u,x=.iface t u)∧v=.bool ng)):=by
 unfold eqI at h
 split at h
 ·exact ⟨rfl,.inl ⟨rfl,by simpa using h.symm⟩⟩
 ·exact ⟨rfl,.inr ⟨⟨_,_,rfl⟩,by simpa using h.symm⟩⟩
 ·cases h
def rdp(ro:RO)(args:List Value):Option Value :=
 match ro,args with
 | .mv,[v]=>some v
 | .pick,[c,a,b]=>b1 (λc=>some (if c then a else b)) c
 | .nilck,[x]=>p1 (λa=>some (.pointer (some a))) x
 | .fld off,[x]=>p1 (λa=>some (.pointer (some (a.add off)))) x
 | .ixs size,[x,i]=>s1 (λa len _=>i1 (λ_ i=>if 0≤i∧i < len then a.map λa=>.pointer (some (a.add (i.toNat*size))) else none) i) x
 | .ixa len size,[x,i]=>p1 (λa=>i1 (λ_ i=>if 0≤i∧i < len then some (.pointer (some (a.add (i.toNat*size)))) else none) i) x
 | .prt off,[x]=>g1 (λcs=>cs[off]?) x
 | .prta off n,[x]=>g1 (λcs=>some (.agg (cs.extract off (off+n)))) x
 | .idx len size,[x,i]=>g1 (λcs=>i1 (λ_ i=>if 0≤i∧i < len then cs[i.toNat*size]? else none) i) x
 | .idxa len size,[x,i]=>g1 (λcs=>i1 (λ_ i=>if 0≤i∧i < len then some (.agg (cs.extract (i.toNat*size) (i.toNat*size+size))) else none) i) x
 | .idxs,[x,i]=>z1 (λs=>i1 (λ_ i=>if 0≤i then (s[i.toNat]?).map λb=>.int .u8 b.toNat else none) i) x
 | .bld zero places,vs=>(lay zero places vs).map λl=>.agg l.toArray
 | .ext i,[x]=>t1 (λvs=>vs[i]?) x
 | .iar .add,[x,y]=>i2 (λk a b=>some (.int k (k.wrap (a+b)))) x y
 | .iar .sub,[x,y]=>i2 (λk a b=>some (.int k (k.wrap (a - b)))) x y
 | .iar .mul,[x,y]=>i2 (λk a b=>some (.int k (k.wrap (a*b)))) x y
 | .idv .quo,[x,y]=>i2 (λk a b=>if b=0 then none else some (.int k (k.wrap (a.tdiv b)))) x y
 | .idv .rem,[x,y]=>i2 (λk a b=>if b=0 then none else some (.int k (a.tmod b))) x y
 | .ibt .and,[x,y]=>i2 (λk a b=>some (.int k (k.wrap (BitVec.ofInt k.bits a &&& BitVec.ofInt k.bits b).toNat))) x y
 | .ibt .or,[x,y]=>i2 (λk a b=>some (.int k (k.wrap (BitVec.ofInt k.bits a ||| BitVec.ofInt k.bits b).toNat))) x y
 | .ibt .xor,[x,y]=>i2 (λk a b=>some (.int k (k.wrap (BitVec.ofInt k.bits a ^^^ BitVec.ofInt k.bits b).toNat))) x y
 | .ish .shl,[x,y]=>j2 (λk a b=>if b < 0 then none else some (.int k (k.wrap (a*2 ^ min b.toNat k.bits)))) x y
 | .ish .shr,[x,y]=>j2 (λk a b=>if b < 0 then none else some (.int k (a.fdiv (2 ^ min b.toNat k.bits)))) x y
 | .icm .eql,[x,y]=>i2 (λ_ a b=>some (.bool (a == b))) x y
 | .icm .neq,[x,y]=>i2 (λ_ a b=>some (.bool (a != b))) x y
 | .icm .lss,[x,y]=>i2 (λ_ a b=>some (.bool (a < b))) x y
 | .icm .leq,[x,y]=>i2 (λ_ a b=>some (.bool (a≤b))) x y
 | .icm .gtr,[x,y]=>i2 (λ_ a b=>some (.bool (b < a))) x y
 | .icm .geq,[x,y]=>i2 (λ_ a b=>some (.bool (b≤a))) x y
 | .beq ng,[x,y]=>b2 (λa b=>some (.bool (if ng then a != b else a == b))) x y
 | .str .add,[x,y]=>z2 (λa b=>if a.size+b.size≤9223372036854775807 then some (.string (a++b)) else none) x y
 | .str .eql,[x,y]=>z2 (λa b=>some (.bool (a.data.toList == b.data.toList))) x y
 | .str .neq,[x,y]=>z2 (λa b=>some (.bool !(a.data.toList == b.data.toList))) x y
 | .str .lss,[x,y]=>z2 (λa b=>some (.bool (Op.bytesLess a.data.toList b.data.toList))) x y
 | .str .leq,[x,y]=>z2 (λa b=>some (.bool (Op.bytesLess a.data.toList b.data.toList || a.data.toList == b.data.toList))) x y
 | .str .gtr,[x,y]=>z2 (λa b=>some (.bool !(Op.bytesLess a.data.toList b.data.toList || a.data.toList == b.data.toList))) x y
 | .str .geq,[x,y]=>z2 (λa b=>some (.bool !(Op.bytesLess a.data.toList b.data.toList))) x y
 | .eqc ng ks,[x,y]=>g1 (λxs=>g1 (λys=>(qm ks xs.toList ys.toList).map λb=>.bool (if ng then !b else b)) y) x
 | .eqm ng,[x,y]=>eqm ng x y
 | .zid,[x]=>z1 (λs=>some (.string s)) x
 | .cpl,[x]=>i1 (λk n=>some (.int k (k.wrap (BitVec.ofInt k.bits (if k.signed then -1 else k.max) ^^^ BitVec.ofInt k.bits n).toNat))) x
 | .eqp ng,[x,y]=>eqp ng x y
 | .eqs ng,[x,y]=>eqs ng x y
 | .not,[x]=>b1 (λb=>some (.bool !b)) x
 | .neg,[x]=>i1 (λk n=>some (.int k (k.wrap (0 - n)))) x
 | .conv k,[x]=>i1 (λ_ n=>some (.int k (k.wrap n))) x
 | .slc size false false,[x]=>s1 (λa n cap=>xG size a cap 0 n) x
 | .slc size true false,[x,lo]=>s1 (λa n cap=>i1 (λ_ lo=>xG size a cap lo n) lo) x
 | .slc size false true,[x,hi]=>s1 (λa _ cap=>i1 (λ_ hi=>xG size a cap 0 hi) hi) x
 | .slc size true true,[x,lo,hi]=>s1 (λa _ cap=>j2 (λ_ lo hi=>xG size a cap lo hi) lo hi) x
 | .len,[x]=>s1 (λ_ n _=>some (.int .i64 n)) x
 | .lenz,[x]=>z1 (λs=>some (.int .i64 s.size)) x
 | .lenk n,[_]=>some (.int .i64 n)
 | .cap,[x]=>s1 (λ_ _ c=>some (.int .i64 c)) x
 | .slc3 size false,[x,hi,mx]=>s1 (λa _ cap=>j2 (λ_ hi mx=>qyZ size a cap 0 hi mx) hi mx) x
 | .slc3 size true,[x,lo,hi,mx]=>s1 (λa _ cap=>i1 (λ_ lo=>j2 (λ_ hi mx=>qyZ size a cap lo hi mx) hi mx) lo) x
 | .slcs false false,[x]=>z1 (λs=>qqC s 0 s.size) x
 | .slcs true false,[x,lo]=>z1 (λs=>i1 (λ_ lo=>qqC s lo s.size) lo) x
 | .slcs false true,[x,hi]=>z1 (λs=>i1 (λ_ hi=>qqC s 0 hi) hi) x
 | .slcs true true,[x,lo,hi]=>z1 (λs=>j2 (λ_ lo hi=>qqC s lo hi) lo hi) x
 | .sla n size false false,[x]=>p1 (λa=>qqD size a n 0 n) x
 | .sla n size true false,[x,lo]=>p1 (λa=>i1 (λ_ lo=>qqD size a n lo n) lo) x
 | .sla n size false true,[x,hi]=>p1 (λa=>i1 (λ_ hi=>qqD size a n 0 hi) hi) x
 | .sla n size true true,[x,lo,hi]=>p1 (λa=>j2 (λ_ lo hi=>qqD size a n lo hi) lo hi) x
 | .mn,x::r=>bW mn2 x r
 | .mx,x::r=>bW mx2 x r
 | .mkf fn n,vs=>some (.func fn (vs.take n).toArray (vs.drop n).toArray)
 | .mki t,[v]=>some (.iface t v)
 | _,_=>none
def xh(ag:Bool):Value→Bool
 | .agg _=>ag
 | .tuple _=>false
 | _=>!ag
def dQ(ag:Bool)(ks:List LK)(k:Value):Bool:=xh ag k && (qm ks (vcl k) (vcl k)).isSome
def Vt(ag:Bool)(ks:List LK)(k:Value):List MapEntry→Nat→Option (Option (Nat×Value))
 | [],_=>some none
 | e::es,i=>if xh ag e.key then (qm ks (vcl k) (vcl e.key)).bind λb=>if b then some (some (i,e.val)) else Vt ag ks k es (i+1) else none
def entriesOf(m:Mem):Value→Option (Array MapEntry)
 | .map none=>some #[]
 | .map (some r)=>match m r with | some (.map es _)=>some es | _=>none
 | _=>none
def By(m:Mem)(a:Addr):Option Value :=
 if a.off=0 then
  match m a.block with
  | some (.mapIter (some b) _ seen last) =>
   match seen.back? with
   | some stamp =>
    match m b with
    | some (.map es clock)=>if clock=last then (es.find? (·.born == stamp)).map λe=>.tuple #[e.key,e.val] else none
    | _=>none
   | none=>none
  | _=>none
 else none
def cO:List Value→Option (List UInt8)
 | []=>some []
 | .int .u8 n::r=>(cO r).map (UInt8.ofNat n.toNat::·)
 | _=>none
def rdm(ro:RO)(args:List Value)(m:Mem):Option Value :=
 match ro,args with
 | .eqi ng,[x,y]=>eqI ng x y
 | .eqq ng,[x,y]=>eqQ m ng x y
 | .ixb,[x,y]=>ixB x y
 | .ovl s,[x,y]=>ovQ m s x y
 | .lenm,[x]=>(entriesOf m x).map λes=>.int .i64 es.size
 | .lkp ag ks zero ok,[x,k]=>if dQ ag ks k then (entriesOf m x).bind λes=>(Vt ag ks k es.toList 0).map λr =>
   match r with
   | some (_,v)=>if ok then .tuple #[v,.bool true] else v
   | none=>if ok then .tuple #[zero,.bool false] else zero
  else none
 | .b2s,[x]=>s1 (λa n _=>(ldS m a n).bind λl=>(cO l).map λbs=>.string ⟨bs.toArray⟩) x
 | .ent,[x]=>p1 (By m) x
 | .ld,[x]=>p1 (λa=>cell m a) x
 | .lda n,[x]=>p1 (λa=>(jD m a 0 n).map λl=>.agg l.toArray) x
 | _,_=>none
def rd(ro:RO)(args:List Value)(m:Mem):Option Value:=match ro.reads with | true=>rdm ro args m | false=>rdp ro args
def pP(f:Addr→Prop):Value→Prop
 | .pointer (some a)=>f a
 | _=>False
def iP(f:Int→Prop):Value→Prop
 | .int .i64 n=>f n
 | _=>False
def sP(f:Option Addr→Nat→Nat→Prop):Value→Prop
 | .slice a n c=>f a n c
 | _=>False
def zP(f:ByteArray→Prop):Value→Prop
 | .string s=>f s
 | _=>False
theorem cY{f:Option Addr→Nat→Nat→Prop}{v:Value}(h:sP f v):∃ a n c,v=.slice a n c∧f a n c:=by
 unfold sP at h
 split at h
 ·exact ⟨_,_,_,rfl,h⟩
 ·exact h.elim
theorem Pe{f:ByteArray→Prop}{v:Value}(h:zP f v):∃ a,v=.string a∧f a:=by
 unfold zP at h
 split at h
 ·exact ⟨_,rfl,h⟩
 ·exact h.elim
theorem Yb{f g:Option Addr→Nat→Nat→Prop}{v:Value}(h:∀ a b c,f a b c→g a b c)(hh:sP f v):sP g v:=by obtain ⟨a,b,c,rfl,h'⟩:=cY hh;exact h _ _ _ h'
theorem SM{f g:ByteArray→Prop}{v:Value}(h:∀ a,f a→g a)(hh:zP f v):zP g v:=by obtain ⟨a,rfl,h'⟩:=Pe hh;exact h _ h'
def Mz(size bytes:Nat)(zero:List Value)(t:TypeId)(m:Mem)(K:Value→Mem→Prop)(base:Option Addr)(n cap:Nat)(news:List Value)(k:Nat):Prop :=
 (n+k)*bytes≤140737488355328∧n+k≤4611686018427387904 ∧
 (n+k≤cap→match base with
  | some a=>∃ m',jW m a (n*size) news=some m'∧K (.slice (some a) (n+k) cap) m'
  | none=>K (.slice none (n+k) cap) m) ∧
 (cap < n+k→∃ old,ldS m base (n*size)=some old ∧
  ∀ c b,n+k≤c→m b=none→K (.slice (some ⟨b,0,none⟩) (n+k) c) (m.set b (.cells (old++news++(List.replicate (c - (n+k)) zero).flatten).toArray t)))
theorem tu{size bytes:Nat}{zero:List Value}{t:TypeId}{m:Mem}{K K':Value→Mem→Prop}{base:Option Addr}{n cap:Nat}{news:List Value}{k:Nat}(h:∀ v m,K v m→K' v m)(hh:Mz size bytes zero t m K base n cap news k):Mz size bytes zero t m K' base n cap news k:=by
 obtain ⟨h1,h2,h3,h4⟩:=hh
 refine ⟨h1,h2,λhc=>?_,λhc=>?_⟩
 ·have:=h3 hc
  cases base with
  | none=>exact h _ _ this
  | some a=>obtain ⟨m',e,hk⟩:=this;exact ⟨m',e,h _ _ hk⟩
 ·obtain ⟨old,e,hk⟩:=h4 hc
  exact ⟨old,e,λc b hb hn=>h _ _ (hk c b hb hn)⟩
def fP(f:Nat→List Value→List Value→Prop):Value→Prop
 | .func (.func g) first captured=>f g first.toList captured.toList
 | _=>False
theorem Ry{f:Addr→Prop}{v:Value}(h:pP f v):∃ a,v=.pointer (some a)∧f a:=by
 unfold pP at h
 split at h
 ·exact ⟨_,rfl,h⟩
 ·exact h.elim
theorem IU{f:Int→Prop}{v:Value}(h:iP f v):∃ a,v=.int .i64 a∧f a:=by
 unfold iP at h
 split at h
 ·exact ⟨_,rfl,h⟩
 ·exact h.elim
theorem qxe{f:Nat→List Value→List Value→Prop}{v:Value}(h:fP f v):∃ g a c,v=.func (.func g) a c∧f g a.toList c.toList:=by
 unfold fP at h
 split at h
 ·exact ⟨_,_,_,rfl,h⟩
 ·exact h.elim
theorem Th{f g:Addr→Prop}{v:Value}(h:∀ a,f a→g a)(hh:pP f v):pP g v:=by obtain ⟨a,rfl,h'⟩:=Ry hh;exact h _ h'
theorem IT{f g:Int→Prop}{v:Value}(h:∀ a,f a→g a)(hh:iP f v):iP g v:=by obtain ⟨a,rfl,h'⟩:=IU hh;exact h _ h'
theorem qws{f g:Nat→List Value→List Value→Prop}{v:Value}(h:∀ a b c,f a b c→g a b c)(hh:fP f v):fP g v:=by obtain ⟨a,b,c,rfl,h'⟩:=qxe hh;exact h _ _ _ h'
def mP(f:Option Nat→Prop):Value→Prop
 | .map r=>f r
 | _=>False
theorem CG{f:Option Nat→Prop}{v:Value}(h:mP f v):∃ r,v=.map r∧f r:=by
 unfold mP at h
 split at h
 ·exact ⟨_,rfl,h⟩
 ·exact h.elim
theorem Bx{f g:Option Nat→Prop}{v:Value}(h:∀ r,f r→g r)(hh:mP f v):mP g v:=by obtain ⟨r,rfl,h'⟩:=CG hh;exact h _ h'
def qZB(ag:Bool)(ks:List LK)(m:Mem)(K:Value→Mem→Prop)(r:Nat)(k v:Value):Prop :=
 dQ ag ks k=true∧∃ es clock,m r=some (.map es clock)∧∃ o,Vt ag ks k es.toList 0=some o ∧
  match o with
  | some (i,_)=>K undef (m.set r (.map (es.modify i λe=>{ e with key:=k,val:=v }) clock))
  | none=>K undef (m.set r (.map (es.push { key:=k,val:=v,born:=clock }) (clock+1)))
def qJY(ag:Bool)(ks:List LK)(m:Mem)(K:Value→Mem→Prop)(k:Value):Option Nat→Prop
 | none=>dQ ag ks k=true∧K (.tuple #[]) m
 | some r=>dQ ag ks k=true∧∃ es clock,m r=some (.map es clock)∧∃ o,Vt ag ks k es.toList 0=some o ∧
  match o with
  | some (i,_)=>K (.tuple #[]) (m.set r (.map (es.eraseIdxIfInBounds i) clock))
  | none=>K (.tuple #[]) (m.set r (.map es clock))
def qQM(m:Mem)(K:Value→Mem→Prop):Option Nat→Prop
 | none=>∀ b,m b=none→K (.pointer (some ⟨b,0,none⟩)) (m.set b (.mapIter none 0 #[] 0))
 | some r=>∃ es clock,m r=some (.map es clock)∧∀ b,m b=none→K (.pointer (some ⟨b,0,none⟩)) (m.set b (.mapIter (some r) clock #[] clock))
def qwz(m:Mem)(K:Value→Mem→Prop)(a:Addr):Prop :=
 a.off=0∧∃ r since seen last,m a.block=some (.mapIter r since seen last) ∧
  match r with
  | none=>K (.tuple #[.bool false]) m
  | some b=>∃ es clock,m b=some (.map es clock)∧(!seen.isEmpty && !es.isEmpty && es.all (·.born≥last))=false ∧
   ((∀ e∈es.toList,seen.contains e.born=false→¬ e.born < since)→K (.tuple #[.bool false]) m) ∧
   ∀ e∈es.toList,seen.contains e.born=false→K (.tuple #[.bool true,e.key,e.val]) (m.set a.block (.mapIter (some b) since (seen.push e.born) clock))
def qyW(zero:List Value)(m:Mem)(K:Value→Mem→Prop):Option Addr→Nat→Nat→Prop
 | none,_,_=>K (.tuple #[]) m
 | some a,n,_=>∃ m',jW m a 0 (List.replicate n zero).flatten=some m'∧K (.tuple #[]) m'
def qxM(m:Mem)(K:Value→Mem→Prop):Option Nat→Prop
 | none=>K (.tuple #[]) m
 | some r=>∃ es clock,m r=some (.map es clock)∧K (.tuple #[]) (m.set r (.map #[] clock))
def qZC(m:Mem)(K:Value→Mem→Prop):Option Addr→Nat→Nat→Prop
 | none,_,_=>False
 | some a,n,c=>∃ arr t fr,m a.block=some (.cells arr t fr)∧(fr=(0,0)∨fr=(arr.size,arr.size+1))∧K (.slice (some a) n c) (m.set a.block (.cells arr t (arr.size,arr.size+1)))
def xs(P:Program)(ro:RO)(args:List Value)(m:Mem)(K:Value→Mem→Prop):Prop :=
 match ro,args with
 | .st n,[x,v]=>pP (λa=>v.cells.size=n∧∃ m',jW m a 0 v.cells.toList=some m'∧K undef m') x
 | .alc zero t,[]=>∀ b,m b=none→K (.pointer (some ⟨b,0,none⟩)) (m.set b (.cells zero.toArray t))
 | .box t,[v]=>∀ b,m b=none→K (.pointer (some ⟨b,0,none⟩)) (m.set b (.cells v.cells t))
 | .bsl t len zero places,vs=>∃ l,lay zero places vs=some l∧∀ b,m b=none→K (.slice (some ⟨b,0,none⟩) len len) (m.set b (.cells l.toArray t))
 | .mks t bytes zero,[x,y]=>iP (λn=>iP (λc=>0≤n∧n≤c∧c≤9223372036854775807∧bytes*c≤281474976710656 ∧
   ∀ b,m b=none→K (.slice (some ⟨b,0,none⟩) n.toNat c.toNat) (m.set b (.cells (List.replicate c.toNat zero).flatten.toArray t))) y) x
 | .app t size bytes zero,[x,y]=>sP (λbase n cap=>sP (λb k _=>∃ news,ldS m b (k*size)=some news∧Mz size bytes zero t m K base n cap news k) y) x
 | .apps t,[x,y]=>sP (λbase n cap=>zP (λs=>Mz 1 1 [.int .u8 0] t m K base n cap (s.data.toList.map λc=>.int .u8 c.toNat) s.size) y) x
 | .appn t size bytes zero,[x,y]=>sP (λbase n cap=>iP (λk=>0≤k∧k*(bytes:Int)≤281474976710656∧Mz size bytes zero t m K base n cap (List.replicate k.toNat zero).flatten k.toNat) y) x
 | .mrk,[x]=>sP (λa n c=>qZC m K a n c) x
 | .cpy size,[x,y]=>sP (λbase n _=>sP (λb k _=>∃ cells,ldS m b (min k n*size)=some cells ∧
   match base with | some a=>∃ m',jW m a 0 cells=some m'∧K (.int .i64 (min k n:Nat)) m' | none=>K (.int .i64 (min k n:Nat)) m) y) x
 | .call f,vs=>MC P f vs m K
 | .callv,x::vs=>fP (λf first captured=>VJ P f=true∧MC P f (first++vs++captured) m K) x
 | .mkm,[]=>∀ b,m b=none→K (.map (some b)) (m.set b (.map #[] 0))
 | .mup ag ks,[x,k,v]=>mP (λr=>∃ b,r=some b∧qZB ag ks m K b k v) x
 | .dlt ag ks,[x,k]=>mP (qJY ag ks m K k) x
 | .clr zero,[x]=>sP (qyW zero m K) x
 | .clrm,[x]=>mP (qxM m K) x
 | .rng,[x]=>mP (qQM m K) x
 | .nxt,[x]=>pP (qwz m K) x
 | .s2b t,[x]=>zP (λs=>∀ c b,s.size≤c→m b=none→K (.slice (some ⟨b,0,none⟩) s.size c) (m.set b (.cells ((s.data.toList.map λ(x:UInt8)=>Value.int .u8 x.toNat)++List.replicate (c - s.size) (Value.int .u8 0)).toArray t (c,c+1)))) x
 | _,_=>False
end Go.Fw
namespace Go.Fw
def QO(P:Program)(t:TypeId):Bool:=match P.underlying t with | some (.struct _) | some (.array _ _) | none=>false | _=>true
def Qd(P:Program)(t:TypeId):Bool:=match P.underlying t with | some (.struct _) | some (.array _ _)=>true | _=>false
section
variable {P:Program} {w:World}
theorem qk{t:TypeId}{d:TypeDesc}(h:P.underlying t=some d):(underlying t).run P w=.ok d w:=run_underlying h w
theorem zX{t:TypeId}{i:TypeInfo}(h:P.info? t=some i):(typeInfo t).run P w=.ok i w:=by simp [typeInfo,h]
theorem qo{t:TypeId}{i:TypeInfo}(h:P.info? t=some i):(sizeOf t).run P w=.ok i.size w:=by simp [sizeOf,zX h]
theorem ff{t:TypeId}(h:QO P t=true):(isAgg t).run P w=.ok false w:=by
 unfold QO at h
 cases hu:P.underlying t with
 | none=>simp [hu] at h
 | some d=>unfold isAgg;cases d<;>simp_all [qk hu]
theorem sm{t:TypeId}(h:Qd P t=true):(isAgg t).run P w=.ok true w:=by
 unfold Qd at h
 cases hu:P.underlying t with
 | none=>simp [hu] at h
 | some d=>unfold isAgg;cases d<;>simp_all [qk hu]
theorem aP{t:TypeId}{cs:Array Value}{off:Nat}{v:Value}(ht:QO P t=true)(h:cs[off]?=some v):(part t cs off).run P w=.ok v w:=by
 simp [part,ff ht,h]
theorem aO{t:TypeId}{cs:Array Value}{off:Nat}{i:TypeInfo}(ht:Qd P t=true)(hi:P.info? t=some i) :
  (part t cs off).run P w=.ok (.agg (cs.extract off (off+i.size))) w:=by
 simp [part,sm ht,qo hi]
end
def jj(g:TypeId→Option (List LK)):List Field→Nat→Option (List LK)
 | [],_=>some []
 | f::fs,off=>if f.name ≠ "_" ∧ f.offset=off then (g f.type).bind λl=>(jj g fs (off+l.length)).map (l++·) else none
def sized(P:Program)(t:TypeId)(l:List LK):Option (List LK):=if (P.info? t).map (·.size)=some l.length then some l else none
def qR(P:Program):Nat→TypeId→Option (List LK)
 | 0,_=>none
 | d+1,t =>
  match P.underlying t with
  | some .bool=>sized P t [.b]
  | some (.int k)=>sized P t [.i k]
  | some .string=>sized P t [.s]
  | some (.struct fs)=>if P.stoodInHeld t then none else (jj (qR P d) fs.toList 0).bind (sized P t)
  | some (.array n e)=>(qR P d e).bind λl=>sized P t (List.replicate n l).flatten
  | _=>none
theorem zZ{P:Program}{t:TypeId}{l l':List LK}(h:sized P t l=some l'):l'=l∧∃ i,P.info? t=some i∧i.size=l.length:=by
 unfold sized at h
 split at h
 ·rename_i h1
  obtain ⟨i,hi,e⟩:=Option.map_eq_some_iff.1 h1
  exact ⟨(Option.some.inj h).symm,i,hi,e⟩
 ·cases h
theorem Qa{P:Program}{d:Nat}{t:TypeId}{l:List LK}(h:qR P d t=some l):∃ i,P.info? t=some i∧i.size=l.length:=by
 cases d with
 | zero=>cases h
 | succ d =>
  simp only [qR] at h
  split at h
  ·obtain ⟨rfl,hh⟩:=zZ h;exact hh
  ·obtain ⟨rfl,hh⟩:=zZ h;exact hh
  ·obtain ⟨rfl,hh⟩:=zZ h;exact hh
  ·split at h
   ·cases h
   ·obtain ⟨l',_,h⟩:=Option.bind_eq_some_iff.1 h
    obtain ⟨rfl,hh⟩:=zZ h;exact hh
  ·obtain ⟨l',_,h⟩:=Option.bind_eq_some_iff.1 h
   obtain ⟨rfl,hh⟩:=zZ h;exact hh
  ·cases h
theorem XL:∀ {k1 k2:List LK} {l l':List Value} {b:Bool},qm (k1++k2) l l'=some b →
  ∃ b1 b2,qm k1 (l.take k1.length) (l'.take k1.length)=some b1∧qm k2 (l.drop k1.length) (l'.drop k1.length)=some b2∧b=(b1 && b2)
 | [],k2,l,l',b,h=>⟨true,b,by simp [qm],by simpa using h,by simp⟩
 | k::k1,k2,x::l,y::l',b,h=>by
  simp only [List.cons_append,qm] at h
  obtain ⟨b0,h0,h⟩:=Option.bind_eq_some_iff.1 h
  obtain ⟨b',h',rfl⟩:=Option.map_eq_some_iff.1 h
  obtain ⟨b1,b2,h1,h2,rfl⟩:=XL h'
  exact ⟨b0 && b1,b2,by simp [qm,h0,h1],by simpa using h2,by rw [Bool.and_assoc]⟩
 | k::k1,k2,[],l',b,h=>by simp [qm] at h
 | k::k1,k2,x::l,[],b,h=>by simp [qm] at h
theorem mC:∀ {k:List LK} {l l':List Value} {b:Bool},qm k l l'=some b→l.length=k.length∧l'.length=k.length
 | [],[],[],_,_=>⟨rfl,rfl⟩
 | k::ks,x::l,y::l',b,h=>by
  simp only [qm] at h
  obtain ⟨b0,_,h⟩:=Option.bind_eq_some_iff.1 h
  obtain ⟨b',h',_⟩:=Option.map_eq_some_iff.1 h
  have:=mC h'
  simp [this.1,this.2]
 | [],x::l,_,_,h=>by simp [qm] at h
 | [],[],y::l',_,h=>by simp [qm] at h
 | k::ks,[],_,_,h=>by simp [qm] at h
 | k::ks,x::l,[],_,h=>by simp [qm] at h
section
variable {P:Program} {w:World}
def qyC(P:Program)(d:Nat)(t:TypeId)(ks:List LK):Prop :=
 ∀ (w:World) (x y:Value) (b:Bool),(Qd P t=true→∃ xs ys,x=.agg xs∧y=.agg ys)→(QO P t=true→∃ k,ks=[k]∧le1 k x y=some b)→qm ks (vcl x) (vcl y)=some b→(Op.equalIn d t x y).run P w=.ok b w
theorem NM(xs:Array Value)(off n:Nat):(xs.extract off (off+n)).toList=(xs.toList.drop off).take n:=by
 rw [Array.toList_extract];simp [List.extract]
theorem vN{d:Nat}{e:TypeId}{ks:List LK}(h:qR P d e=some ks):(QO P e=true∧Qd P e=false∧∃ k,ks=[k])∨(QO P e=false∧Qd P e=true):=by
 cases d with
 | zero=>cases h
 | succ d =>
  simp only [qR] at h
  unfold QO Qd
  split at h
  ·rename_i hu;obtain ⟨rfl,_⟩:=zZ h;exact .inl ⟨by rw [hu],by rw [hu],_,rfl⟩
  ·rename_i hu;obtain ⟨rfl,_⟩:=zZ h;exact .inl ⟨by rw [hu],by rw [hu],_,rfl⟩
  ·rename_i hu;obtain ⟨rfl,_⟩:=zZ h;exact .inl ⟨by rw [hu],by rw [hu],_,rfl⟩
  ·rename_i hu;exact .inr ⟨by rw [hu],by rw [hu]⟩
  ·rename_i hu;exact .inr ⟨by rw [hu],by rw [hu]⟩
  ·cases h
theorem Tk{d:Nat}{e:TypeId}{ks:List LK}(hl:qR P d e=some ks)(ih:qyC P d e ks){off:Nat}{xs ys:Array Value}{b:Bool}(h:qm ks ((xs.toList.drop off).take ks.length) ((ys.toList.drop off).take ks.length)=some b) :
  ∃ x y,(part e xs off).run P w=.ok x w∧(part e ys off).run P w=.ok y w∧(Op.equalIn d e x y).run P w=.ok b w:=by
 rcases vN hl with ⟨hp,ha,k,rfl⟩ | ⟨hp,ha⟩
 ·have hlen:=mC h
  have get:∀ zs:Array Value,((zs.toList.drop off).take [k].length).length=[k].length→∃ z,zs[off]?=some z∧(zs.toList.drop off).take [k].length=[z]:=λzs hz=>by
   simp only [List.length_take,List.length_drop,Array.length_toList,List.length_cons,List.length_nil,Nat.zero_add] at hz
   have hlt:off < zs.size:=by omega
   refine ⟨zs[off],Array.getElem?_eq_getElem hlt,?_⟩
   rw [List.drop_eq_getElem_cons (by simpa using hlt)]
   simp
  obtain ⟨x,hx,ex⟩:=get xs hlen.1
  obtain ⟨y,hy,ey⟩:=get ys hlen.2
  rw [ex,ey] at h
  have h1:le1 k x y=some b:=by
   simp only [qm] at h
   obtain ⟨b0,h0,h⟩:=Option.bind_eq_some_iff.1 h
   simp only [Option.map_some,Option.some.injEq,Bool.and_true] at h
   rw [h0,h]
  refine ⟨x,y,aP hp hx,aP hp hy,ih w x y b (λh=>by rw [ha] at h;cases h) (λ_=>⟨k,rfl,h1⟩) ?_⟩
  have hv:vcl x=[x]∧vcl y=[y]:=by
   unfold le1 at h1
   split at h1<;>first | exact ⟨rfl,rfl⟩ | cases h1
  rw [hv.1,hv.2];exact h
 ·obtain ⟨i,hi,hs⟩:=Qa hl
  refine ⟨_,_,aO ha hi,aO ha hi,ih w _ _ b (λ_=>⟨_,_,rfl,rfl⟩) (λh=>by rw [hp] at h;cases h) ?_⟩
  simp only [vcl,NM,hs]
  exact h
theorem HX{d:Nat}(ih:∀ e ks,qR P d e=some ks→qyC P d e ks)(xs ys:Array Value):∀ (fs:List Field) (off:Nat) (ks:List LK) (b:Bool),jj (qR P d) fs off=some ks →
  qm ks (xs.toList.drop off) (ys.toList.drop off)=some b→(Op.eqFields d xs ys fs).run P w=.ok b w
 | [],off,ks,b,h,hb=>by
  simp only [jj,Option.some.injEq] at h
  subst h
  have:b=true:=by
   unfold qm at hb
   split at hb<;>simp_all
  subst this
  simp [Op.eqFields]
 | f::fs,off,ks,b,h,hb=>by
  simp only [jj] at h
  split at h
  case isFalse=>cases h
  rename_i hn
  obtain ⟨l,hl,h⟩:=Option.bind_eq_some_iff.1 h
  obtain ⟨r,hr,rfl⟩:=Option.map_eq_some_iff.1 h
  obtain ⟨b1,b2,h1,h2,rfl⟩:=XL hb
  obtain ⟨x,y,p1,p2,p3⟩:=Tk (w:=w) hl (ih _ _ hl) h1
  rw [List.drop_drop,List.drop_drop] at h2
  have:=HX ih xs ys fs (off+l.length) r b2 hr h2
  simp only [Op.eqFields,hn.1,ne_eq,not_false_eq_true,if_true,hn.2,Sem.run_bind,p1,p2,p3,Result.andThen_ok]
  cases b1
  ·simp
  ·simpa using this
theorem Nr{d:Nat}{e:TypeId}{l:List LK}(hl:qR P d e=some l)(ih:qyC P d e l)(xs ys:Array Value):∀ (m k:Nat) (b:Bool),
  qm (List.replicate m l).flatten (xs.toList.drop (k*l.length)) (ys.toList.drop (k*l.length))=some b→(Op.eqItems d e l.length xs ys (List.range' k m)).run P w=.ok b w
 | 0,k,b,hb=>by
  have:b=true:=by
   unfold qm at hb
   split at hb<;>simp_all
  subst this
  simp [Op.eqItems]
 | m+1,k,b,hb=>by
  rw [List.replicate_succ,List.flatten_cons] at hb
  obtain ⟨b1,b2,h1,h2,rfl⟩:=XL hb
  obtain ⟨x,y,p1,p2,p3⟩:=Tk (w:=w) hl ih h1
  rw [List.drop_drop,List.drop_drop,← Nat.succ_mul] at h2
  have:=Nr hl ih xs ys m (k+1) b2 h2
  simp only [List.range'_succ,Op.eqItems,Sem.run_bind,p1,p2,p3,Result.andThen_ok]
  cases b1
  ·simp
  ·simpa using this
theorem TI:∀ (d:Nat) (t:TypeId) (ks:List LK),qR P d t=some ks→qyC P d t ks
 | 0,_,_,h=>by cases h
 | d+1,t,ks,h=>by
  have h0:=h
  intro w x y b hagg hpl hb
  simp only [qR] at h
  have leaf:QO P t=true→(∀ k,ks=[k]→le1 k x y=some b→(Op.equalIn (d+1) t x y).run P w=.ok b w)→(Op.equalIn (d+1) t x y).run P w=.ok b w:=λhp hk=>by
   obtain ⟨k,e,h1⟩:=hpl hp
   exact hk k e h1
  split at h
  ·rename_i hu
   obtain ⟨rfl,_⟩:=zZ h
   refine leaf (by simp [QO,hu]) λk e h1=>?_
   cases e
   unfold le1 at h1
   split at h1<;>first | (cases h1;done) | skip
   ·simp only [Option.some.injEq] at h1;subst h1;exact run_equalIn_bool' w d t _ _ hu
   ·rename_i hh;cases hh
   ·rename_i hh;cases hh
  ·rename_i k0 hu
   obtain ⟨rfl,_⟩:=zZ h
   refine leaf (by simp [QO,hu]) λk e h1=>?_
   cases e
   unfold le1 at h1
   split at h1<;>first | (cases h1;done) | skip
   ·rename_i hh;cases hh
   ·rename_i hh
    cases hh
    split at h1
    ·rename_i hk
     simp only [Option.some.injEq] at h1;subst h1
     rw [hk.1,hk.2];exact run_equalIn_int w d t _ _ _ _ hu
    ·cases h1
   ·rename_i hh;cases hh
  ·rename_i hu
   obtain ⟨rfl,_⟩:=zZ h
   refine leaf (by simp [QO,hu]) λk e h1=>?_
   cases e
   unfold le1 at h1
   split at h1<;>first | (cases h1;done) | skip
   ·rename_i hh;cases hh
   ·rename_i hh;cases hh
   ·simp only [Option.some.injEq] at h1;subst h1;rw [← ByteArray.toList_eq,← ByteArray.toList_eq];exact run_equalIn_string w d t _ _ hu
  ·rename_i fs hu
   split at h
   ·cases h
   ·rename_i hst
    obtain ⟨l,hl,h⟩:=Option.bind_eq_some_iff.1 h
    obtain ⟨rfl,_⟩:=zZ h
    obtain ⟨xs,ys,rfl,rfl⟩:=hagg (by simp [Qd,hu])
    have hf:P.fieldsOf t=fs:=by simp [Program.fieldsOf,hu]
    rw [run_equalIn_struct w d t xs ys (by rw [hf];exact hu) (by simpa using hst),hf]
    exact HX (λe ks h=>TI d e ks h) xs ys fs.toList 0 _ b hl (by simpa [vcl] using hb)
  ·rename_i n e hu
   obtain ⟨l,hl,h⟩:=Option.bind_eq_some_iff.1 h
   obtain ⟨rfl,_⟩:=zZ h
   obtain ⟨xs,ys,rfl,rfl⟩:=hagg (by simp [Qd,hu])
   obtain ⟨i,hi,hs⟩:=Qa hl
   have hc:P.cellsOf e=l.length:=by simp [Program.cellsOf,hi,hs]
   rw [run_equalIn_array w d xs ys hu hi,hc,List.range_eq_range']
   exact Nr hl (TI d e l hl) xs ys n 0 b (by simpa [vcl] using hb)
  ·cases h
end
end Go.Fw
namespace Go.Fw
section
variable {P:Program} {w:World}
theorem tP:∀ {ks:List LK} {l l':List Value} {b:Bool},qm ks l l'=some b→qm ks l l=some true
 | [],[],[],_,_=>rfl
 | k::ks,x::l,y::l',b,h=>by
  simp only [qm] at h ⊢
  obtain ⟨b0,h0,h⟩:=Option.bind_eq_some_iff.1 h
  obtain ⟨b',h',_⟩:=Option.map_eq_some_iff.1 h
  have h1:le1 k x x=some true:=by
   unfold le1 at h0 ⊢
   split at h0
   ·simp
   ·split at h0
    ·rename_i hk;simp [hk.1]
    ·cases h0
   ·simp
   ·cases h0
  rw [h1,Option.bind_some,tP h'];rfl
 | [],x::l,_,_,h=>by simp [qm] at h
 | [],[],y::l',_,h=>by simp [qm] at h
 | k::ks,[],_,_,h=>by simp [qm] at h
 | k::ks,x::l,[],_,h=>by simp [qm] at h
theorem ZK{v:Value}(h:xh true v=true):∃ xs,v=.agg xs:=by
 cases v<;>simp [xh] at h
 exact ⟨_,rfl⟩
theorem Wj{ag:Bool}{ks:List LK}{k:Value}(h:dQ ag ks k=true):xh ag k=true∧qm ks (vcl k) (vcl k)=some true:=by
 unfold dQ at h
 simp only [Bool.and_eq_true] at h
 obtain ⟨b,hb⟩:=Option.isSome_iff_exists.1 h.2
 exact ⟨h.1,tP hb⟩
theorem qqu{t:TypeId}{ks:List LK}(hl:qR P 10000 t=some ks){x y:Value}{b:Bool}(hx:xh (Qd P t) x=true)(hy:xh (Qd P t) y=true)(h:qm ks (vcl x) (vcl y)=some b) :
  (Op.equal t x y).run P w=.ok b w:=by
 refine TI 10000 t ks hl w x y b (λha=>?_) (λhp=>?_) h
 ·rw [ha] at hx hy
  obtain ⟨xs,rfl⟩:=ZK hx
  obtain ⟨ys,rfl⟩:=ZK hy
  exact ⟨_,_,rfl,rfl⟩
 ·rcases vN hl with ⟨_,ha,k,rfl⟩ | ⟨hp',_⟩
  ·refine ⟨k,rfl,?_⟩
   rw [ha] at hx hy
   have one:∀ v:Value,xh false v=true→vcl v=[v]:=λv hv=>by cases v<;>simp [xh] at hv<;>rfl
   rw [one x hx,one y hy] at h
   simp only [qm] at h
   obtain ⟨b0,h0,h⟩:=Option.bind_eq_some_iff.1 h
   simp only [Option.map_some,Option.some.injEq,Bool.and_true] at h
   rw [h0,h]
  ·rw [hp] at hp';cases hp'
theorem lh{t:TypeId}{ks:List LK}(hl:qR P 10000 t=some ks){k:Value}(hk:xh (Qd P t) k=true):∀ (es:List MapEntry) (i:Nat) (r:Option (Nat×Value)),Vt (Qd P t) ks k es i=some r →
  (Instr.findAsking t k es i).run P w=.ok r w
 | [],i,r,h=>by simp only [Vt,Option.some.injEq] at h;subst h;simp [Instr.findAsking]
 | e::es,i,r,h=>by
  simp only [Vt] at h
  split at h
  case isFalse=>cases h
  rename_i he
  obtain ⟨b,hb,h⟩:=Option.bind_eq_some_iff.1 h
  have h1:=qqu (w:=w) hl hk he hb
  cases b with
  | true=>simp only [if_true,Option.some.injEq] at h;subst h;simp [Instr.findAsking,h1]
  | false =>
   simp only [Bool.false_eq_true,if_false] at h
   simp [Instr.findAsking,h1,lh hl hk es (i+1) r h]
theorem mL{t:TypeId}{ks:List LK}(hl:qR P 10000 t=some ks){k:Value}(hk:xh (Qd P t) k=true){es:List MapEntry}{r:Option (Nat×Value)}(h:Vt (Qd P t) ks k es 0=some r) :
  (Instr.findKey t k es).run P w=.ok r w:=by
 obtain ⟨d,hd⟩:∃ d,P.underlying t=some d:=by
  cases hu:P.underlying t with
  | none=>simp [qR,hu] at hl
  | some d=>exact ⟨d,rfl⟩
 have hnow:∀ (es:List MapEntry) (i:Nat) (r r':Option (Nat×Value)),Vt (Qd P t) ks k es i=some r→Instr.findNow d k es i=some r'→r'=r:=by
  intro es
  induction es with
  | nil=>intro i r r' h h';simp only [Vt,Instr.findNow,Option.some.injEq] at h h';rw [← h,← h']
  | cons e es ih =>
   intro i r r' h h'
   obtain ⟨ky,vl,bn⟩:=e
   simp only [Vt] at h
   split at h
   case isFalse=>cases h
   rename_i he
   obtain ⟨b,hb,h⟩:=Option.bind_eq_some_iff.1 h
   simp only [Instr.findNow] at h'
   have same:∀ b',Instr.sameNow d k ky=some b'→b'=b:=λb' hb'=>by
    clear h h' ih
    unfold Instr.sameNow at hb'
    split at hb'
    ·split at hb'
     ·simp only [Option.some.injEq] at hb';subst hb'
      simp only [vcl] at hb
      rcases vN hl with ⟨_,_,q,rfl⟩ | ⟨_,ha⟩
      ·simp only [qm] at hb
       obtain ⟨b0,h0,hb⟩:=Option.bind_eq_some_iff.1 hb
       simp only [Option.map_some,Option.some.injEq,Bool.and_true] at hb
       unfold le1 at h0
       split at h0<;>simp_all
      ·simp [Qd,hd] at ha
     ·cases hb'
    ·simp only [Option.some.injEq] at hb';subst hb'
     simp only [vcl] at hb
     rcases vN hl with ⟨_,_,q,rfl⟩ | ⟨_,ha⟩
     ·simp only [qm] at hb
      obtain ⟨b0,h0,hb⟩:=Option.bind_eq_some_iff.1 hb
      simp only [Option.map_some,Option.some.injEq,Bool.and_true] at hb
      cases q<;>simp only [le1,reduceCtorEq,Option.some.injEq] at h0
      rw [← (show b0=b by assumption),← h0,beq_toListBytes,ByteArray.toList_eq,ByteArray.toList_eq]
     ·simp [Qd,hd] at ha
    ·simp only [Option.some.injEq] at hb';subst hb'
     simp only [vcl] at hb
     rcases vN hl with ⟨_,_,q,rfl⟩ | ⟨_,ha⟩
     ·simp only [qm] at hb
      obtain ⟨b0,h0,hb⟩:=Option.bind_eq_some_iff.1 hb
      simp only [Option.map_some,Option.some.injEq,Bool.and_true] at hb
      unfold le1 at h0
      split at h0<;>simp_all
     ·simp [Qd,hd] at ha
    ·cases hb'
   split at h'
   ·rename_i hs
    have:=same _ hs
    subst this
    simp only [if_true,Option.some.injEq] at h h'
    rw [← h,← h']
   ·rename_i hs
    have:=same _ hs
    subst this
    simp only [Bool.false_eq_true,if_false] at h
    exact ih (i+1) r r' h h'
   ·cases h'
 unfold Instr.findKey
 simp only [Sem.run_bind,qk hd,Result.andThen_ok]
 cases hn:Instr.findNow d k es 0 with
 | none=>exact lh hl hk es 0 r h
 | some r'=>rw [hnow es 0 r r' h hn];simp
def CkOk(P:Program)(em:Bool)(d:Nat)(t:TypeId)(ks:List LK):Prop :=
 ∀ (w:World) (x:Value),xh (Qd P t) x=true→qm ks (vcl x) (vcl x)=some true→(Instr.checkKey em d t x).run P w=.ok () w
theorem Tv{em:Bool}{d:Nat}{e:TypeId}{ks:List LK}(hl:qR P d e=some ks)(ih:CkOk P em d e ks){off:Nat}{xs:Array Value}(h:qm ks ((xs.toList.drop off).take ks.length) ((xs.toList.drop off).take ks.length)=some true) :
  ∃ x,(part e xs off).run P w=.ok x w∧(Instr.checkKey em d e x).run P w=.ok () w:=by
 rcases vN hl with ⟨hp,ha,k,rfl⟩ | ⟨hp,ha⟩
 ·have hlen:=(mC h).1
  simp only [List.length_take,List.length_drop,Array.length_toList,List.length_cons,List.length_nil,Nat.zero_add] at hlen
  have hlt:off < xs.size:=by omega
  have ex:(xs.toList.drop off).take [k].length=[xs[off]]:=by
   rw [List.drop_eq_getElem_cons (by simpa using hlt)]
   simp
  rw [ex] at h
  have h1:le1 k xs[off] xs[off]=some true:=by
   simp only [qm] at h
   obtain ⟨b0,h0,h⟩:=Option.bind_eq_some_iff.1 h
   simp only [Option.map_some,Option.some.injEq,Bool.and_true] at h
   rw [h0,h]
  refine ⟨xs[off],aP hp (Array.getElem?_eq_getElem hlt),ih w _ ?_ ?_⟩
  ·rw [ha]
   unfold le1 at h1
   split at h1<;>first | (rename_i e1 _;rw [e1];rfl) | (rename_i e1;rw [e1];rfl) | cases h1 | simp_all [xh]
  ·have hv:vcl xs[off]=[xs[off]]:=by
    unfold le1 at h1
    split at h1<;>simp_all [vcl]
   rw [hv];exact h
 ·obtain ⟨i,hi,hs⟩:=Qa hl
  refine ⟨_,aO ha hi,ih w _ (by rw [ha];rfl) ?_⟩
  simp only [vcl,NM,hs]
  exact h
theorem fJ{k1 k2:List LK}{l:List Value}(h:qm (k1++k2) l l=some true):qm k1 (l.take k1.length) (l.take k1.length)=some true∧qm k2 (l.drop k1.length) (l.drop k1.length)=some true:=by
 obtain ⟨b1,b2,h1,h2,h3⟩:=XL h
 have:b1=true∧b2=true:=by simpa using h3.symm
 rw [this.1] at h1;rw [this.2] at h2
 exact ⟨h1,h2⟩
theorem qxR(em:Bool):∀ (d:Nat) (t:TypeId) (ks:List LK),qR P d t=some ks→CkOk P em d t ks
 | 0,_,_,h=>by cases h
 | d+1,t,ks,h=>by
  intro w x hx hb
  simp only [qR] at h
  split at h
  ·rename_i hu
   unfold Instr.checkKey
   simp only [Sem.run_bind,qk hu,Result.andThen_ok]
   cases x<;>rfl
  ·rename_i hu
   unfold Instr.checkKey
   simp only [Sem.run_bind,qk hu,Result.andThen_ok]
   cases x<;>rfl
  ·rename_i hu
   unfold Instr.checkKey
   simp only [Sem.run_bind,qk hu,Result.andThen_ok]
   cases x<;>rfl
  ·rename_i fs hu
   split at h
   ·cases h
   ·obtain ⟨l,hl,h⟩:=Option.bind_eq_some_iff.1 h
    obtain ⟨rfl,_⟩:=zZ h
    have ha:Qd P t=true:=by simp [Qd,hu]
    rw [ha] at hx
    obtain ⟨xs,rfl⟩:=ZK hx
    unfold Instr.checkKey
    simp only [Sem.run_bind,qk hu,Result.andThen_ok]
    rw [← Array.forIn_toList]
    have go:∀ (L:List Field) (off:Nat) (ks:List LK),jj (qR P d) L off=some ks→qm ks (xs.toList.drop off) (xs.toList.drop off)=some true →
      (forIn L PUnit.unit (λf _=>do
       if f.name ≠ "_" then Instr.checkKey em d f.type (← part f.type xs f.offset)
       pure (ForInStep.yield PUnit.unit)):Sem PUnit).run P w=.ok () w:=by
     intro L
     induction L with
     | nil=>intro off ks _ _;simp
     | cons f L ih =>
      intro off ks hk hb
      simp only [jj] at hk
      split at hk
      case isFalse=>cases hk
      rename_i hn
      obtain ⟨l1,hl1,hk⟩:=Option.bind_eq_some_iff.1 hk
      obtain ⟨r,hr,rfl⟩:=Option.map_eq_some_iff.1 hk
      obtain ⟨h1,h2⟩:=fJ hb
      obtain ⟨v,p1,p2⟩:=Tv (w:=w) hl1 (qxR em d _ _ hl1) h1
      rw [List.drop_drop] at h2
      rw [List.forIn_cons]
      simp only [Sem.run_bind,hn.1,ne_eq,not_false_eq_true,if_true,hn.2,p1,p2,Result.andThen_ok,Sem.run_pure]
      exact ih _ _ hr h2
    have:=go fs.toList 0 _ hl (by simpa [vcl] using hb)
    simp at this ⊢
    rw [this];rfl
  ·rename_i n e hu
   obtain ⟨l,hl,h⟩:=Option.bind_eq_some_iff.1 h
   obtain ⟨rfl,_⟩:=zZ h
   have ha:Qd P t=true:=by simp [Qd,hu]
   rw [ha] at hx
   obtain ⟨xs,rfl⟩:=ZK hx
   obtain ⟨i,hi,hs⟩:=Qa hl
   unfold Instr.checkKey
   simp only [Sem.run_bind,qk hu,Result.andThen_ok]
   simp only [Std.Legacy.Range.forIn_eq_forIn_range',Std.Legacy.Range.size,Nat.sub_zero,Nat.add_one_sub_one,Nat.div_one]
   have go:∀ (m k:Nat),qm (List.replicate m l).flatten (xs.toList.drop (k*l.length)) (xs.toList.drop (k*l.length))=some true →
     (forIn (List.range' k m) PUnit.unit (λi _=>do
      Instr.checkKey em d e (← part e xs (i*(← sizeOf e)))
      pure (ForInStep.yield PUnit.unit)):Sem PUnit).run P w=.ok () w:=by
    intro m
    induction m with
    | zero=>intro k _;simp
    | succ m ih =>
     intro k hb
     rw [List.replicate_succ,List.flatten_cons] at hb
     obtain ⟨h1,h2⟩:=fJ hb
     obtain ⟨v,p1,p2⟩:=Tv (w:=w) hl (qxR em d _ _ hl) h1
     rw [List.drop_drop,← Nat.succ_mul] at h2
     rw [List.range'_succ,List.forIn_cons]
     simp only [Sem.run_bind,qo hi,hs,Result.andThen_ok,p1,p2,Sem.run_pure]
     exact ih (k+1) h2
   have:=go n 0 (by simpa [vcl] using hb)
   simp at this ⊢
   rw [this];rfl
  ·cases h
theorem aB{em:Bool}{t:TypeId}{ks:List LK}(hl:qR P 10000 t=some ks){k:Value}(h:dQ (Qd P t) ks k=true):(Instr.checkKey em 10000 t k).run P w=.ok () w:=by
 obtain ⟨h1,h2⟩:=Wj h
 exact qxR em 10000 t ks hl w k h1 h2
theorem qxz{k:LK}{x y:Value}(h:le1 k x y=some true):x=y:=by
 unfold le1 at h
 split at h
 ·simp only [Option.some.injEq,beq_iff_eq] at h;rw [h]
 ·split at h
  ·rename_i hk
   simp only [Option.some.injEq,beq_iff_eq] at h;rw [h,hk.1,hk.2]
  ·cases h
 ·simp only [Option.some.injEq,beq_iff_eq] at h
  rename_i a b
  obtain ⟨⟨a⟩⟩:=a
  obtain ⟨⟨b⟩⟩:=b
  simp only at h;rw [h]
 ·cases h
theorem tO:∀ {ks:List LK} {l l':List Value},qm ks l l'=some true→l=l'
 | [],[],[],_=>rfl
 | k::ks,x::l,y::l',h=>by
  simp only [qm] at h
  obtain ⟨b0,h0,h⟩:=Option.bind_eq_some_iff.1 h
  obtain ⟨b',h',e⟩:=Option.map_eq_some_iff.1 h
  simp only [Bool.and_eq_true] at e
  rw [e.1] at h0;rw [e.2] at h'
  rw [qxz h0,tO h']
 | [],x::l,_,h=>by simp [qm] at h
 | [],[],y::l',h=>by simp [qm] at h
 | k::ks,[],_,h=>by simp [qm] at h
 | k::ks,x::l,[],h=>by simp [qm] at h
theorem qxQ{ag:Bool}{ks:List LK}{x y:Value}(hx:xh ag x=true)(hy:xh ag y=true)(h:qm ks (vcl x) (vcl y)=some true):x=y:=by
 have hv:=tO h
 cases ag with
 | true =>
  obtain ⟨xs,rfl⟩:=ZK hx
  obtain ⟨ys,rfl⟩:=ZK hy
  simp only [vcl] at hv
  rw [Array.toList_inj.1 hv]
 | false =>
  have one:∀ v:Value,xh false v=true→vcl v=[v]:=λv hv=>by cases v<;>simp [xh] at hv<;>rfl
  rw [one x hx,one y hy] at hv
  simpa using hv
theorem NI{ag:Bool}{ks:List LK}{k:Value}(hk:xh ag k=true):∀ {es:List MapEntry} {i j:Nat} {v:Value},Vt ag ks k es i=some (some (j,v))→∃ n e,j=i+n∧es[n]?=some e∧e.key=k∧e.val=v
 | [],i,j,v,h=>by simp [Vt] at h
 | e::es,i,j,v,h=>by
  simp only [Vt] at h
  split at h
  case isFalse=>cases h
  rename_i he
  obtain ⟨b,hb,h⟩:=Option.bind_eq_some_iff.1 h
  cases b with
  | true =>
   simp only [if_true,Option.some.injEq,Prod.mk.injEq] at h
   exact ⟨0,e,by simp [h.1],rfl,(qxQ hk he hb).symm,h.2⟩
  | false =>
   simp only [Bool.false_eq_true,if_false] at h
   obtain ⟨n,e',h1,h2,h3⟩:=NI hk h
   exact ⟨n+1,e',by omega,by simpa using h2,h3⟩
theorem qql{k:LK}{x:Value}(h:le1 k x x=some true)(n:Nat):Instr.sameBits n x x=true:=by
 unfold le1 at h
 split at h
 ·cases n<;>simp [Instr.sameBits]
 ·cases n<;>simp [Instr.sameBits]
 ·have e:∀ a:ByteArray,(a == a)=true:=λa=>by rw [beq_toListBytes];simp
  cases n<;>simp only [Instr.sameBits,e]
 ·cases h
theorem qxZ{ag:Bool}{ks:List LK}{k:Value}(h:dQ ag ks k=true):Instr.sameBits 10000 k k=true:=by
 obtain ⟨h1,h2⟩:=Wj h
 have all:∀ {ks:List LK} {l:List Value},qm ks l l=some true→∀ v∈l,∀ n,Instr.sameBits n v v=true:=by
  intro ks
  induction ks with
  | nil =>
   intro l h v hv
   cases l with
   | nil=>cases hv
   | cons x l=>simp [qm] at h
  | cons k ks ih =>
   intro l h v hv n
   cases l with
   | nil=>cases hv
   | cons x l =>
    simp only [qm] at h
    obtain ⟨b0,h0,h⟩:=Option.bind_eq_some_iff.1 h
    obtain ⟨b',h',e⟩:=Option.map_eq_some_iff.1 h
    simp only [Bool.and_eq_true] at e
    rw [e.1] at h0;rw [e.2] at h'
    rcases List.mem_cons.1 hv with rfl | hv
    ·exact qql h0 n
    ·exact ih h' v hv n
 cases ag with
 | true =>
  obtain ⟨xs,rfl⟩:=ZK h1
  show Instr.sameBits (9999+1) (.agg xs) (.agg xs)=true
  simp only [Instr.sameBits,beq_self_eq_true,Bool.true_and,List.all_eq_true]
  rintro ⟨a,b⟩ hp
  obtain ⟨i,hi,e⟩:=List.mem_iff_getElem.1 hp
  rw [List.getElem_zip] at e
  have hia:i < xs.toList.length:=by simpa using hi
  cases e
  exact all h2 _ (List.getElem_mem hia) 9999
 | false =>
  have one:vcl k=[k]:=by cases k<;>simp [xh] at h1<;>rfl
  rw [one] at h2
  exact all h2 k (List.mem_singleton.2 rfl) 10000
theorem qzR{ag:Bool}{ks:List LK}{k:Value}(h:dQ ag ks k=true):(Instr.keyThatStays k k).run P w=.ok k w:=by
 simp [Instr.keyThatStays,qxZ h]
end
end Go.Fw
namespace Go.Fw
def zeroOf(P:Program)(t:TypeId):Option (Value×Nat):=(P.info? t).bind λi=>i.zero.map λz=>(z,i.size)
def placesOf(P:Program)(ps:List Nat)(fields:Array Field):Option (List (Nat×Nat)) :=
 ps.mapM λi=>(fields[i]?).bind λf=>(P.info? f.type).map λj=>(f.offset,j.size)
def NL(P:Program)(fields:Array Field):Bool:=fields.all λf=>(P.info? f.type).isSome
def qZL:Operand→Bool
 | .const (.pointer none)=>true
 | _=>false
def BE(P:Program)(ng:Bool)(e:TypeId)(x y:Operand):Option (RO×List Operand) :=
 if qZL y then some (.eqp ng,[x,y]) else match P.info? e with
  | some i=>if i.size=0 then none else some (.eqq ng,[x,y])
  | none=>none
def HP(P:Program)(op:BinOp)(t:TypeId)(x y:Operand):Option (RO×List Operand) :=
 match op,P.underlying t with
 | .add,some (.int _) | .sub,some (.int _) | .mul,some (.int _)=>some (.iar op,[x,y])
 | .quo,some (.int _) | .rem,some (.int _)=>some (.idv op,[x,y])
 | .and,some (.int _) | .or,some (.int _) | .xor,some (.int _)=>some (.ibt op,[x,y])
 | .shl,some (.int _) | .shr,some (.int _)=>some (.ish op,[x,y])
 | .eql,some (.int _) | .neq,some (.int _) | .lss,some (.int _) | .leq,some (.int _) | .gtr,some (.int _) | .geq,some (.int _)=>some (.icm op,[x,y])
 | .eql,some .bool=>some (.beq false,[x,y])
 | .neq,some .bool=>some (.beq true,[x,y])
 | .eql,some (.pointer e)=>BE P false e x y
 | .neq,some (.pointer e)=>BE P true e x y
 | .eql,some (.slice _)=>some (.eqs false,[x,y])
 | .neq,some (.slice _)=>some (.eqs true,[x,y])
 | .eql,some (.map _ _)=>some (.eqm false,[x,y])
 | .neq,some (.map _ _)=>some (.eqm true,[x,y])
 | .add,some .string | .eql,some .string | .neq,some .string | .lss,some .string | .leq,some .string | .gtr,some .string | .geq,some .string=>some (.str op,[x,y])
 | .eql,some (.struct _) | .eql,some (.array _ _)=>if P.eqGuardType P.depth t then none else (qR P 10000 t).map λks=>(.eqc false ks,[x,y])
 | .neq,some (.struct _) | .neq,some (.array _ _)=>if P.eqGuardType P.depth t then none else (qR P 10000 t).map λks=>(.eqc true ks,[x,y])
 | _,_=>none
def nC(P:Program)(t:TypeId)(x:Operand)(lo hi:Option Operand):Option (RO×List Operand) :=
 match P.underlying t with
 | some (.slice e)=>(P.info? e).map λi=>(.slc i.size lo.isSome hi.isSome,x::lo.toList++hi.toList)
 | some .string=>some (.slcs lo.isSome hi.isSome,x::lo.toList++hi.toList)
 | some (.pointer arr) =>
  match P.underlying arr with
  | some (.array n e)=>(P.info? e).map λi=>(.sla n i.size lo.isSome hi.isSome,x::lo.toList++hi.toList)
  | _=>none
 | _=>none
def gV(P:Program)(t:TypeId)(x:Operand)(lo hi mx:Option Operand):Option (RO×List Operand) :=
 match P.underlying t,hi,mx with
 | some (.slice e),some hi,some mx=>(P.info? e).map λi=>(.slc3 i.size lo.isSome,x::lo.toList++[hi,mx])
 | _,_,_=>none
def lF(P:Program)(t:TypeId):Option (Bool×List LK×TypeId) :=
 match P.underlying t with
 | some (.map k e)=>(qR P 10000 k).map λks=>(Qd P k,ks,e)
 | _=>none
def gW(P:Program)(t:TypeId)(x i:Operand)(ok:Bool):Option (RO×List Operand) :=
 (lF P t).bind λk=>(zeroOf P k.2.2).map λz=>(.lkp k.1 k.2.1 z.1 ok,[x,i])
def isU8:Option Value→Bool
 | some (.int .u8 0)=>true
 | _=>false
def nF(P:Program)(t:TypeId)(parts:List (Nat×Operand)):Option (RO×List Operand) :=
 (zeroOf P t).bind λz =>
  match P.underlying t with
  | some (.struct fields)=>if NL P fields then (placesOf P (parts.map (·.1)) fields).map λps=>(.bld z.1.cells.toList ps,parts.map (·.2)) else none
  | some (.array _ e)=>(P.info? e).map λi=>(.bld z.1.cells.toList (parts.map λp=>(p.1*i.size,i.size)),parts.map (·.2))
  | _=>none
def aF(P:Program)(t:TypeId)(len:Nat)(parts:List (Nat×Operand)):Option (RO×List Operand) :=
 match P.underlying t with
 | some (.slice e)=>(P.info? e).bind λi=>(i.zero).bind λz =>
  if z.cells.size=i.size∧0 < i.size∧len*i.size≤16777216 then some (.bsl e len (List.replicate len z.cells.toList).flatten (parts.map λp=>(p.1*i.size,i.size)),parts.map (·.2)) else none
 | _=>none
def qjK(op:BinOp)(x y:Operand):Option (RO×List Operand) :=
 match y with
 | .const .nilIface=>(match op with | .eql=>some (.eqi false,[x,y]) | .neq=>some (.eqi true,[x,y]) | _=>none)
 | _=>none
def u8T(P:Program)(e:TypeId):Bool:=match P.underlying e with | some (.int .u8)=>true | _=>false
theorem qkC{P:Program}{e:TypeId}(h:u8T P e=true):P.underlying e=some (.int .u8):=by
 unfold u8T at h
 split at h
 ·assumption
 ·cases h
def qwf(P:Program)(t:TypeId):Bool:=match P.underlying t with | some (.interface _)=>true | _=>false
def AS(P:Program)(op:BinOp)(t:TypeId)(x y:Operand):Option (RO×List Operand):=if qwf P t then qjK op x y else HP P op t x y
def HO(P:Program)(argTypes:Array TypeId)(xs:List Operand):Option (RO×List Operand) :=
 match (argTypes[0]?).bind P.underlying with
 | some (.slice _)=>some (.cap,xs)
 | _=>none
def HN(P:Program)(argTypes:Array TypeId)(xs:List Operand):Option (RO×List Operand) :=
 match (argTypes[0]?).bind P.underlying with
 | some (.slice _)=>some (.len,xs)
 | some .string=>some (.lenz,xs)
 | some (.map _ _)=>some (.lenm,xs)
 | _=>none
def HR(P:Program)(argTypes:Array TypeId)(xs:List Operand):Option (RO×List Operand) :=
 match (argTypes[0]?).bind P.underlying with
 | some (.slice e) =>
  match (argTypes[1]?).bind P.underlying with
  | some (.slice _)=>(P.info? e).bind λi=>(i.zero).bind λz=>if z.cells.size=i.size∧0 < i.size then some (.app e i.size i.bytes z.cells.toList,xs) else none
  | some .string=>(P.info? e).bind λi=>if i.size=1∧i.bytes=1∧isU8 i.zero then some (.apps e,xs) else none
  | some (.int .i64)=>(P.info? e).bind λi=>(i.zero).bind λz=>if z.cells.size=i.size∧0 < i.size then some (.appn e i.size i.bytes z.cells.toList,xs) else none
  | _=>none
 | _=>none
def AR(P:Program)(argTypes:Array TypeId)(xs:List Operand):Option (RO×List Operand) :=
 match (argTypes[0]?).bind P.underlying with
 | some (.slice e)=>(P.info? e).map λi=>(.cpy i.size,xs)
 | _=>none
def gY(P:Program)(argTypes:Array TypeId)(xs:List Operand):Option (RO×List Operand) :=
 ((argTypes[0]?).bind (lF P)).map λk=>(.dlt k.1 k.2.1,xs)
def nD(P:Program)(argTypes:Array TypeId)(xs:List Operand):Option (RO×List Operand) :=
 match (argTypes[0]?).bind P.underlying with
 | some (.slice e)=>(zeroOf P e).map λz=>(.clr z.1.cells.toList,xs)
 | some (.map _ _)=>some (.clrm,xs)
 | _=>none
def two(ro:RO)(xs:List Operand):Option (RO×List Operand):=if xs.length=2 then some (ro,xs) else none
def lG(P:Program)(b:Builtin)(argTypes:Array TypeId)(xs:List Operand):Option (RO×List Operand) :=
 match b with
 | .len=>HN P argTypes xs
 | .append=>HR P argTypes xs
 | .copy=>AR P argTypes xs
 | .min=>some (.mn,xs)
 | .max=>some (.mx,xs)
 | .delete=>gY P argTypes xs
 | .clear=>nD P argTypes xs
 | .cap=>HO P argTypes xs
 | _=>none
theorem qJx:Extern.allNextRows.lookup "internal/bytealg.IndexByteString"=none:=by kernel_rfl
theorem qJj:Extern.allNextRows.lookup ""=none:=by kernel_rfl
theorem fT:Extern.allGenericRows.lookup "internal/bytealg.IndexByteString"=none:=by kernel_rfl
theorem ext_t:Extern.allTypedRows.lookup "internal/bytealg.IndexByteString"=none:=by kernel_rfl
theorem ext_a:Extern.allRows.lookup "internal/bytealg.IndexByteString"=some Extern.BytealgIndexByte.indexByte:=by kernel_rfl
theorem qwO{fn:Func}(h:fn.name="internal/bytealg.IndexByteString")(ho:fn.origin=""):Extern.findNext fn=none∧Extern.find fn=some Extern.BytealgIndexByte.indexByte:=by
 simp [Extern.findNext,Extern.find,h,ho,qJx,qJj,fT,ext_t,ext_a]
def qxX(s:String):Bool:=s == "slices.overlaps[concord/disk.file]" || s == "slices.overlaps[*concord/core.lead]" || s == "slices.overlaps[*concord/core.wish]"
theorem qwN:Extern.allNextRows.lookup "slices.overlaps[concord/disk.file]"=none:=by kernel_rfl
theorem qwM:Extern.allGenericRows.lookup "slices.overlaps[concord/disk.file]"=none:=by kernel_rfl
theorem qwL:Extern.allTypedRows.lookup "slices.overlaps[concord/disk.file]"=none:=by kernel_rfl
theorem qwI:Extern.allRows.lookup "slices.overlaps[concord/disk.file]"=none:=by kernel_rfl
theorem qwH:Extern.allNextRows.lookup "slices.overlaps[*concord/core.lead]"=none:=by kernel_rfl
theorem qwG:Extern.allGenericRows.lookup "slices.overlaps[*concord/core.lead]"=none:=by kernel_rfl
theorem qwF:Extern.allTypedRows.lookup "slices.overlaps[*concord/core.lead]"=none:=by kernel_rfl
theorem qwE:Extern.allRows.lookup "slices.overlaps[*concord/core.lead]"=none:=by kernel_rfl
theorem qwD:Extern.allNextRows.lookup "slices.overlaps[*concord/core.wish]"=none:=by kernel_rfl
theorem qwC:Extern.allGenericRows.lookup "slices.overlaps[*concord/core.wish]"=none:=by kernel_rfl
theorem qwB:Extern.allTypedRows.lookup "slices.overlaps[*concord/core.wish]"=none:=by kernel_rfl
theorem qwA:Extern.allRows.lookup "slices.overlaps[*concord/core.wish]"=none:=by kernel_rfl
theorem Sq:Extern.allNextRows.lookup "slices.overlaps"=none:=by kernel_rfl
theorem RU:Extern.allGenericRows.lookup "slices.overlaps"=none:=by kernel_rfl
theorem RT:Extern.allTypedRows.lookup "slices.overlaps"=some Extern.SlicesOverlaps.overlaps:=by kernel_rfl
theorem qwu{fn:Func}(h:qxX fn.name=true)(ho:fn.origin="slices.overlaps"):fn.name ≠ "runtime.NumGoroutine" ∧ Extern.findNext fn=none∧Extern.find fn=some (Extern.SlicesOverlaps.overlaps fn.params fn.resultTypes):=by
 simp only [qxX,Bool.or_eq_true,beq_iff_eq] at h
 rcases h with (h | h) | h
 ·exact ⟨by rw [h];decide,by simp [Extern.findNext,Extern.find,h,ho,qwN,qwM,qwL,qwI,Sq,RU,RT]⟩
 ·exact ⟨by rw [h];decide,by simp [Extern.findNext,Extern.find,h,ho,qwH,qwG,qwF,qwE,Sq,RU,RT]⟩
 ·exact ⟨by rw [h];decide,by simp [Extern.findNext,Extern.find,h,ho,qwD,qwC,qwB,qwA,Sq,RU,RT]⟩
def Ti(P:Program)(fn:Func):Option Nat:=match (fn.params[0]?).bind P.underlying with
 | some (.slice e)=>(P.info? e).map (·.size)
 | _=>none
def PO(P:Program)(f:Operand)(xs:List Operand):Option (RO×List Operand) :=
 match f with
 | .func f=>(P.funcs[f]?).bind λfn=>if fn.body.isSome && fn.name != "runtime.NumGoroutine" then some (.call f,xs) else if fn.body.isNone && fn.name == "internal/bytealg.IndexByteString" && fn.origin == "" then some (.ixb,xs) else if fn.body.isNone && qxX fn.name && fn.origin == "slices.overlaps" then (Ti P fn).map λs=>(.ovl s,xs) else none
 | .tmp t=>some (.callv,.tmp t::xs)
 | _=>none
def nE(P:Program)(c:Call)(xs:List Operand):Option (RO×List Operand) :=
 match c.callee with
 | .value f=>PO P f xs
 | .builtin b=>lG P b c.argTypes xs
 | .invoke _ _=>none
def qjX(P:Program)(op:UnOp)(t:TypeId)(x:Operand):Option (RO×List Operand) :=
 match op with
 | .not=>some (.not,[x])
 | .neg=>if (match P.underlying t with | some (.int _)=>true | _=>false) then some (.neg,[x]) else none
 | .xor=>if (match P.underlying t with | some (.int _)=>true | _=>false) then some (.cpl,[x]) else none
 | _=>none
def qjV(P:Program)(o:Oper):Option (RO×List Operand) :=
 match o.op with
 | .move x | .assign x=>some (.mv,[x])
 | .pick c a b=>some (.pick,[c,a,b])
 | .nilCheck x=>some (.nilck,[x])
 | .fieldAddr s x f =>
  match P.underlying s with
  | some (.struct fields)=>(fields[f]?).bind λfl=>(P.info? fl.type).bind λi=>if i.size=0 then none else some (.fld fl.offset,[x])
  | _=>none
 | .indexAddr t x i =>
  match P.underlying t with
  | some (.slice e)=>(P.info? e).map λj=>(.ixs j.size,[x,i])
  | some (.array n e)=>(P.info? e).map λj=>(.ixa n j.size,[x,i])
  | _=>none
 | .load t x=>if QO P t then some (.ld,[x]) else if Qd P t then (P.info? t).map λi=>(.lda i.size,[x]) else none
 | .store t x v=>(P.info? t).map λi=>(.st i.size,[x,v])
 | .alloc t=>(zeroOf P t).map λz=>(.alc z.1.cells.toList t,[])
 | .box t v=>some (.box t,[v])
 | .binOp op t x y _=>AS P op t x y
 | .makeInterface t x=>if qwf P t || (P.underlying t).isNone then none else some (.mki t,[x])
 | .unOp op t x=>qjX P op t x
 | .convert s d x =>
  match P.underlying s,P.underlying d with
  | some (.int _),some (.int k)=>some (.conv k,[x])
  | some .string,some .string=>some (.zid,[x])
  | some (.slice e),some .string=>if P.underlying e matches some (.int .u8) then some (.b2s,[x]) else none
  | some .string,some (.slice e)=>if P.underlying e matches some (.int .u8) then some (.s2b e,[x]) else none
  | some (.slice _),some (.slice e)=>if s == d && u8T P e then some (.mrk,[x]) else none
  | _,_=>none
 | .field t x f =>
  match P.underlying t with
  | some (.struct fields)=>(fields[f]?).bind λfl=>if QO P fl.type then some (.prt fl.offset,[x]) else if Qd P fl.type then (P.info? fl.type).map λi=>(.prta fl.offset i.size,[x]) else none
  | _=>none
 | .extract x i=>some (.ext i,[x])
 | .makeSlice t l c =>
  match P.underlying t with
  | some (.slice e)=>(P.info? e).bind λi=>(i.zero).bind λz=>if z.cells.size=i.size∧0 < i.size then some (.mks e i.bytes z.cells.toList,[l,c]) else none
  | _=>none
 | .slice t x lo hi mx=>if mx.isNone then nC P t x lo hi else gV P t x lo hi mx
 | .index t x i =>
  match P.underlying t with
  | some (.array n e)=>if QO P e then (P.info? e).map λj=>(.idx n j.size,[x,i]) else if Qd P e then (P.info? e).map λj=>(.idxa n j.size,[x,i]) else none
  | some .string=>some (.idxs,[x,i])
  | _=>none
 | .makeFunc fn first captured=>some (.mkf fn first.size,first.toList++captured.toList)
 | .makeMap t r=>if r.isNone then some (.mkm,[]) else none
 | .lookup t x i ok=>gW P t x i ok
 | .mapUpdate t m k x | .insert t m k x=>(lF P t).map λz=>(.mup z.1 z.2.1,[m,k,x])
 | .range t x=>match P.underlying t with | some (.map _ _)=>some (.rng,[x]) | _=>none
 | .next it isString=>if isString then none else some (.nxt,[it])
 | .entry it=>some (.ent,[it])
 | .build t parts=>nF P t parts.toList
 | .buildSlice t len parts=>aF P t len parts.toList
 | .call c=>nE P c c.args.toList
 | _=>none
def qz(P:Program)(o:Oper):Option (RO×List Operand):=some ((qjV P o).getD (.bad,[]))
theorem GB{P:Program}{o:Oper}{r:RO×List Operand}(h:qz P o=some r):qjV P o=some r∨r=(.bad,[]):=by
 unfold qz at h
 cases h0:qjV P o with
 | none=>rw [h0] at h;exact .inr (by simpa using h.symm)
 | some x=>rw [h0] at h;exact .inl (by simpa using h)
section sound
variable {P:Program} {ro:RO} {xl:List Operand} {m:Mem} {w:World} {ρ:Operand→Value}
theorem aD{a:Addr}{v:Value}(hw:qO w=m)(h:cell m a=some v):(load a).run P w=.ok v w:=by
 subst hw;rw [PZ] at h;simp [h]
theorem run_loadCellsFrom(hw:qO w=m)(a:Addr):∀ (n i:Nat) (acc:Array Value) (l:List Value),jD m a i n=some l →
  (loadCellsFrom a i n acc).run P w=.ok (acc++l.toArray) w
 | 0,i,acc,l,h=>by simp only [jD,Option.some.injEq] at h;subst h;simp [loadCellsFrom]
 | n+1,i,acc,l,h=>by
  simp only [jD,Option.bind_eq_some_iff,Option.map_eq_some_iff] at h
  obtain ⟨v,hv,r,hr,rfl⟩:=h
  simp only [loadCellsFrom,Sem.run_bind,aD hw hv,Result.andThen_ok,run_loadCellsFrom hw a n (i+1) _ r hr]
  simp
theorem PD:∀ (off:Nat) (vs cs:List Value),spl off vs cs=if off+vs.length≤cs.length then some (cs.take off++vs++cs.drop (off+vs.length)) else none
 | 0,[],cs=>by simp [spl]
 | 0,v::vs,[]=>by simp [spl]
 | 0,v::vs,c::cs=>by
  simp only [spl,PD 0 vs cs,Nat.zero_add,List.length_cons,Nat.add_le_add_iff_right]
  split<;>simp
 | n+1,vs,[]=>by simp only [spl,List.length_nil];rw [if_neg (by omega)]
 | n+1,vs,c::cs=>by
  simp only [spl,PD n vs cs,List.length_cons]
  by_cases h:n+vs.length≤cs.length
  ·rw [if_pos h,if_pos (by omega)]
   simp [show n+1+vs.length=(n+vs.length)+1 from by omega]
  ·rw [if_neg h,if_neg (by omega)];rfl
theorem HQ(off:Nat):∀ (vs:List Value) (j:Nat) (cs:Array Value),off+j+vs.length≤cs.size →
  ((vs.zipIdx j).foldl (λcs (c,j)=>cs.setIfInBounds (off+j) c) cs).toList=cs.toList.take (off+j)++vs++cs.toList.drop (off+j+vs.length)
 | [],j,cs,h=>by simp
 | v::vs,j,cs,h=>by
  simp only [List.length_cons] at h
  simp only [List.zipIdx_cons,List.foldl_cons]
  have ih:=HQ off vs (j+1) (cs.setIfInBounds (off+j) v) (by simp;omega)
  rw [ih]
  have hlt:off+j < cs.toList.length:=by simp;omega
  simp only [Array.toList_setIfInBounds]
  rw [List.take_set,List.drop_set_of_lt (by omega),show off+(j+1)=off+j+1 from by omega,List.take_succ_eq_append_getElem (by simpa using hlt)]
  rw [List.set_append_right _ _ (by simp;omega)]
  simp only [List.length_take,Nat.min_eq_left (Nat.le_of_lt hlt),Nat.sub_self,List.set_cons_zero,List.append_assoc,List.cons_append,List.nil_append,List.length_cons]
  rw [show off+j+1+vs.length=off+j+(vs.length+1) from by omega]
theorem oO(place:Nat→Option (Nat×Nat)):∀ (parts:List (Nat×Value)) (ps:List (Nat×Nat)) (cells:Array Value) (l:List Value),
  (parts.map λp=>place p.1)=ps.map some→lay cells.toList ps (parts.map (·.2))=some l→Instr.fill place cells parts=some l.toArray
 | [],ps,cells,l,hp,h=>by
  cases ps with
  | nil=>simp only [lay,List.map_nil,Option.some.injEq] at h;subst h;simp [Instr.fill]
  | cons p r=>simp at hp
 | (i,v)::r,ps,cells,l,hp,h=>by
  cases ps with
  | nil=>simp at hp
  | cons p ps =>
   obtain ⟨off,size⟩:=p
   simp only [List.map_cons,List.cons.injEq] at hp
   simp only [List.map_cons,lay] at h
   split at h
   case isFalse=>cases h
   rename_i hsz
   rw [qzV,Array.length_toList] at hsz
   obtain ⟨cs,hcs,hl⟩:=Option.bind_eq_some_iff.1 h
   rw [PD,qzV] at hcs
   split at hcs
   case isFalse=>cases hcs
   rename_i hle
   simp only [Option.some.injEq] at hcs
   simp only [Array.length_toList] at hle
   simp only [Instr.fill,hp.1]
   rw [if_neg (by simp [hsz];omega)]
   have h1:=HQ off v.cells.toList 0 cells (by simpa using hle)
   have h2:(v.cells.zipIdx.foldl (λcs (c,j)=>cs.setIfInBounds (off+j) c) cells)=cs.toArray:=by
    apply Array.ext'
    rw [← hcs,← Array.foldl_toList]
    simpa using h1
   rw [h2]
   exact oO place r ps cs.toArray l hp.2 hl
theorem qJ{α β:Type}{a c:α}{b d:β}(h:some (a,b)=some (c,d)):a=c∧b=d:=by simpa using h
theorem qZR{f:IntKind→Int→Int→Option Value}{x y v:Value}(h:i2 f x y=some v):∃ k a b,x=.int k a∧y=.int k b∧f k a b=some v:=by
 cases x<;>cases y<;>simp only [i2,reduceCtorEq] at h
 split at h
 ·rename_i e;subst e;exact ⟨_,_,_,rfl,rfl,h⟩
 ·cases h
theorem sl{f:IntKind→Int→Int→Option Value}{x y v:Value}(h:j2 f x y=some v):∃ k k' a b,x=.int k a∧y=.int k' b∧f k a b=some v:=by
 cases x<;>cases y<;>simp only [j2,reduceCtorEq] at h
 exact ⟨_,_,_,_,rfl,rfl,h⟩
theorem ZV{f:IntKind→Int→Option Value}{x v:Value}(h:i1 f x=some v):∃ k a,x=.int k a∧f k a=some v:=by
 cases x<;>simp only [i1,reduceCtorEq] at h
 exact ⟨_,_,rfl,h⟩
theorem qJt{f:Bool→Bool→Option Value}{x y v:Value}(h:b2 f x y=some v):∃ a b,x=.bool a∧y=.bool b∧f a b=some v:=by
 cases x<;>cases y<;>simp only [b2,reduceCtorEq] at h
 exact ⟨_,_,rfl,rfl,h⟩
theorem qkv{f:Bool→Option Value}{x v:Value}(h:b1 f x=some v):∃ a,x=.bool a∧f a=some v:=by
 cases x<;>simp only [b1,reduceCtorEq] at h
 exact ⟨_,rfl,h⟩
theorem ci{f:Addr→Option Value}{x v:Value}(h:p1 f x=some v):∃ a,x=.pointer (some a)∧f a=some v:=by
 unfold p1 at h
 split at h
 ·exact ⟨_,rfl,h⟩
 ·cases h
theorem ss{f:Array Value→Option Value}{x v:Value}(h:g1 f x=some v):∃ a,x=.agg a∧f a=some v:=by
 cases x<;>simp only [g1,reduceCtorEq] at h
 exact ⟨_,rfl,h⟩
theorem qQD{f:Array Value→Option Value}{x v:Value}(h:t1 f x=some v):∃ a,x=.tuple a∧f a=some v:=by
 cases x<;>simp only [t1,reduceCtorEq] at h
 exact ⟨_,rfl,h⟩
theorem ru{f:Option Addr→Nat→Nat→Option Value}{x v:Value}(h:s1 f x=some v):∃ a n c,x=.slice a n c∧f a n c=some v:=by
 cases x<;>simp only [s1,reduceCtorEq] at h
 exact ⟨_,_,_,rfl,h⟩
theorem Hl{f:ByteArray→Option Value}{x v:Value}(h:z1 f x=some v):∃ a,x=.string a∧f a=some v:=by
 cases x<;>simp only [z1,reduceCtorEq] at h
 exact ⟨_,rfl,h⟩
theorem TH{ng:Bool}{x y v:Value}(h:eqp ng x y=some v):∃ a,x=.pointer a∧y=.pointer none∧v=.bool (if ng then a.isSome else a.isNone):=by
 unfold eqp at h
 split at h
 ·exact ⟨_,rfl,rfl,by simpa using h.symm⟩
 ·cases h
theorem cg{m:Mem}{b:Nat}(h:ch m b=true):∃ c t,m b=some (.cells c t (0,0)):=by
 unfold ch at h
 split at h
 ·exact ⟨_,_,by assumption⟩
 ·cases h
theorem oP{t e:TypeId}{i:TypeInfo}(ht:P.underlying t=some (.pointer e))(hi:P.info? e=some i)(hz:i.size≠0)(d:Nat){a b:Addr}{r:Bool}(h:(sameAddr a b).run P w=.ok r w):(Op.equalIn (d+1) t (.pointer (some a)) (.pointer (some b))).run P w=.ok r w:=by
 simp [Op.equalIn,qk ht,qo hi,hz,h]
theorem Lx{t e:TypeId}(ht:P.underlying t=some (.pointer e))(d:Nat)(b:Addr):(Op.equalIn (d+1) t (.pointer none) (.pointer (some b))).run P w=.ok false w:=by
 simp [Op.equalIn,qk ht]
theorem qwU{ng:Bool}{x y v:Value}(h:eqQ (qO w) ng x y=some v){t e:TypeId}{i:TypeInfo}(ht:P.underlying t=some (.pointer e))(hi:P.info? e=some i)(hz:i.size≠0)(d:Nat) :
  ∃ r,(Op.equalIn (d+1) t x y).run P w=.ok r w∧v=.bool (if ng then !r else r)∧∃ a b,x=.pointer a∧y=.pointer b:=by
 unfold eqQ at h
 split at h
 ·rename_i a
  simp only [Option.some.injEq] at h;subst h
  exact ⟨a.isNone,by cases a<;>simp [Op.equalIn,qk ht],by cases ng<;>cases a<;>rfl,_,_,rfl,rfl⟩
 ·rename_i b
  simp only [Option.some.injEq] at h;subst h
  exact ⟨false,Lx ht d b,by cases ng<;>rfl,_,_,rfl,rfl⟩
 ·rename_i a b
  split at h
  ·rename_i hb
   simp only [Option.some.injEq] at h;subst h
   exact ⟨a == b,oP ht hi hz d (by simp [sameAddr,hb]),rfl,_,_,rfl,rfl⟩
  ·rename_i hb
   split at h
   ·rename_i hp
    simp only [Bool.and_eq_true] at hp
    obtain ⟨ca,ta,ha⟩:=cg hp.1
    obtain ⟨cb,tb,hb'⟩:=cg hp.2
    simp only [Option.some.injEq] at h;subst h
    exact ⟨false,oP ht hi hz d (run_sameAddr_other w (λe=>hb (by rw [e])) ha hb'),by cases ng<;>rfl,_,_,rfl,rfl⟩
   ·cases h
 ·cases h
theorem Cl(ps rs:Array TypeId)(a b:Option Addr)(la ca lb cb:Nat):Extern.SlicesOverlaps.overlaps ps rs #[.slice a la ca,.slice b lb cb]=(do
  let some t:=ps[0]? | stuck "slices.overlaps: no parameter types"
  let .slice elem ← underlying t | stuck "slices.overlaps: slice type expected"
  let size ← sizeOf elem
  match a,b with
  | some a,some b =>
   if la=0∨lb=0∨size=0 then pure (.bool false)
   else if a.block != b.block && (← frozen a) && (← frozen b) then unsupported .addressObserved
   else do
    if a.block != b.block then do
     noView a;noView b
     if ← mayBeOne a b then return .bool ((← choose (.extern "sameAddr.stringBytes" 2)) == 1)
    pure (.bool (a.block == b.block && a.off < b.off+lb*size && b.off < a.off+la*size))
  | _,_=>pure (.bool false)):=rfl
theorem qvT{s:Nat}{x y v:Value}(h:ovQ (qO w) s x y=some v){ps rs:Array TypeId}{t e:TypeId}{i:TypeInfo}(h0:ps[0]?=some t)(ht:P.underlying t=some (.slice e))(hi:P.info? e=some i)(hz:i.size=s) :
  (Extern.SlicesOverlaps.overlaps ps rs #[x,y]).run P w=.ok v w:=by
 unfold ovQ at h
 split at h
 ·rename_i a la ca b lb cb
  split at h
  ·rename_i h1
   simp only [Option.some.injEq] at h;subst h
   simp [Cl,h0,qk ht,qo hi,hz,h1]
  ·rename_i h1
   split at h
   ·rename_i hb
    simp only [Option.some.injEq] at h;subst h
    simp [Cl,h0,qk ht,qo hi,hz,h1,hb]
   ·rename_i hb
    split at h
    ·rename_i hp
     simp only [Bool.and_eq_true] at hp
     obtain ⟨ca,ta,ha⟩:=cg hp.1
     obtain ⟨cb,tb,hb'⟩:=cg hp.2
     simp only [Option.some.injEq] at h;subst h
     have ha:w.heap[a.block]?=some (.cells ca ta (0,0)):=ha
     have hb':w.heap[b.block]?=some (.cells cb tb (0,0)):=hb'
     simp [Cl,h0,qk ht,qo hi,hz,h1,hb,frozen,Sem.run,World.frozen?,World.shape?,ha,hb',noView,viewAt,mayBeOne,stringish,shape]
    ·cases h
 ·simp only [Option.some.injEq] at h;subst h
  simp [Cl,h0,qk ht,qo hi,hz]
 ·simp only [Option.some.injEq] at h;subst h
  simp [Cl,h0,qk ht,qo hi,hz]
 ·cases h
theorem qwS{ng:Bool}{x y v:Value}(h:eqs ng x y=some v):∃ a n c n' c',x=.slice a n c∧y=.slice none n' c'∧v=.bool (if ng then a.isSome else a.isNone):=by
 unfold eqs at h
 split at h
 ·exact ⟨_,_,_,_,_,rfl,rfl,by simpa using h.symm⟩
 ·cases h
theorem qwT{ng:Bool}{x y v:Value}(h:eqm ng x y=some v):∃ a,x=.map a∧y=.map none∧v=.bool (if ng then a.isSome else a.isNone):=by
 unfold eqm at h
 split at h
 ·exact ⟨_,rfl,rfl,by simpa using h.symm⟩
 ·cases h
theorem qQk{f:ByteArray→ByteArray→Option Value}{x y v:Value}(h:z2 f x y=some v):∃ a b,x=.string a∧y=.string b∧f a b=some v:=by
 cases x<;>cases y<;>simp only [z2,reduceCtorEq] at h
 exact ⟨_,_,rfl,rfl,h⟩
theorem NO{t k e:TypeId}(ht:P.underlying t=some (.map k e))(d:Nat)(a:Option Nat):(Op.equalIn (d+1) t (.map a) (.map none)).run P w=.ok a.isNone w:=by
 cases a<;>simp [Op.equalIn,qk ht]
theorem Lv{t:TypeId}(ht:P.underlying t=some .bool)(d:Nat)(a b:Bool):(Op.equalIn (d+1) t (.bool a) (.bool b)).run P w=.ok (a == b) w:=by
 simp [Op.equalIn,qk ht]
theorem ux{t e:TypeId}(ht:P.underlying t=some (.pointer e))(d:Nat)(a:Option Addr):(Op.equalIn (d+1) t (.pointer a) (.pointer none)).run P w=.ok a.isNone w:=by
 cases a<;>simp [Op.equalIn,qk ht]
theorem FL{t e:TypeId}(ht:P.underlying t=some (.slice e))(d:Nat)(a:Option Addr)(n c n' c':Nat):(Op.equalIn (d+1) t (.slice a n c) (.slice none n' c')).run P w=.ok a.isNone w:=by
 cases a<;>simp [Op.equalIn,qk ht]
theorem kz{t:TypeId}{x y:Value}:Op.equal t x y=Op.equalIn (9999+1) t x y:=rfl
theorem qqT(hwm:qO w=m){op:BinOp}{t:TypeId}{x y:Operand}(h:HP P op t x y=some (ro,xl)){v:Value}(hr:rd ro (xl.map ρ) m=some v) :
    (do eqGuard op t x y (ρ x) (ρ y);binOp op t (ρ x) (ρ y):Sem Value).run P w=.ok v w:=by
  have agg:∀ (ng:Bool) (op:BinOp) (ks:List LK),(op=if ng then .neq else .eql)→Qd P t=true→qR P 10000 t=some ks→P.eqGuardType P.depth t=false→rd (.eqc ng ks) [ρ x,ρ y] m=some v →
      (do eqGuard op t x y (ρ x) (ρ y);binOp op t (ρ x) (ρ y):Sem Value).run P w=.ok v w:=by
    intro ng op ks hop ha hl hg hr
    obtain ⟨xs,hx,hr⟩:=ss hr
    obtain ⟨ys,hy,hr⟩:=ss hr
    obtain ⟨b,hb,rfl⟩:=Option.map_eq_some_iff.1 hr
    rw [hx,hy]
    have h1:=TI 10000 t ks hl w (.agg xs) (.agg ys) b (λ_=>⟨_,_,rfl,rfl⟩) (λhp=>by
      rcases vN hl with ⟨_,ha',_⟩ | ⟨hp',_⟩
      · rw [ha] at ha';cases ha'
      · rw [hp] at hp';cases hp') hb
    subst hop
    cases ng
    · simp only [Bool.false_eq_true,if_false,Sem.run_bind,run_eqGuard_agg w .eql t x y xs ys hg,Result.andThen_ok,run_eql_struct,h1]
    · simp only [if_true,Sem.run_bind,run_eqGuard_agg w .neq t x y xs ys hg,Result.andThen_ok,run_neq_struct,h1]
  have ptr:∀ (ng:Bool) (op:BinOp) (e:TypeId),(op=if ng then .neq else .eql)→P.underlying t=some (.pointer e)→BE P ng e x y=some (ro,xl) →
      (do eqGuard op t x y (ρ x) (ρ y);binOp op t (ρ x) (ρ y):Sem Value).run P w=.ok v w:=by
    intro ng op e hop hu h
    unfold BE at h
    split at h
    · obtain ⟨rfl,rfl⟩:=qJ h
      simp only [List.map_cons,List.map_nil,rd,rdp,RO.reads] at hr
      obtain ⟨a,hx,hy,rfl⟩:=TH hr
      rw [hx,hy]
      subst hop
      cases ng<;>cases a<;>simp [eqGuard,binOp,kz,ux (P:=P) hu]
    · split at h
      · rename_i i hi
        split at h
        · cases h
        · rename_i hz
          obtain ⟨rfl,rfl⟩:=qJ h
          have hr:eqQ m ng (ρ x) (ρ y)=some v:=hr
          rw [← hwm] at hr
          obtain ⟨r,h1,rfl,a,b,hx,hy⟩:=qwU hr hu hi hz 9999
          rw [hx,hy] at h1 ⊢
          subst hop
          cases ng<;>simp [eqGuard,binOp,kz,h1]
      · cases h
  unfold HP at h
  split at h<;>first
    | (cases h;done)
    | (rename_i hu;exact ptr _ _ _ rfl hu h)
    | (rename_i hu
       split at h
       · cases h
       · rename_i hg
         obtain ⟨ks,hl,h⟩:=Option.map_eq_some_iff.1 h
         obtain ⟨rfl,rfl⟩:=Prod.mk.injEq ..▸h
         exact agg _ _ ks rfl (by simp [Qd,hu]) hl (by simpa using hg) hr)
    | (obtain ⟨rfl,rfl⟩:=qJ h)
  all_goals simp only [List.map_cons,List.map_nil,rd,rdp,RO.reads] at hr
  all_goals generalize ρ x=a at *
  all_goals generalize ρ y=b at *
  all_goals first
    | (obtain ⟨k,i,j,rfl,rfl,e⟩:=qZR hr
       first
         | (simp only [Option.some.injEq] at e;subst e;simp [eqGuard,binOp,Op.intArith,Op.intBits,Op.intCmp];done)
         | (split at e
            · cases e
            · rename_i hz
              simp only [Option.some.injEq] at e;subst e;simp [eqGuard,binOp,Op.intDiv,hz];done))
    | (obtain ⟨k,k',i,j,rfl,rfl,e⟩:=sl hr
       split at e
       · cases e
       · rename_i hz
         simp only [Option.some.injEq] at e;subst e;simp [eqGuard,binOp,Op.shift,hz];done)
    | (obtain ⟨i,j,rfl,rfl,e⟩:=qJt hr
       simp only [Option.some.injEq] at e;subst e
       cases i<;>cases j<;>simp [eqGuard,binOp,kz,Lv (P:=P) (by assumption)]<;>done)
    | (obtain ⟨a,rfl,rfl,rfl⟩:=TH hr
       cases a<;>simp [eqGuard,binOp,kz,ux (P:=P) (by assumption)]<;>done)
    | (obtain ⟨a,n,c,n',c',rfl,rfl,rfl⟩:=qwS hr
       cases a<;>simp [eqGuard,binOp,kz,FL (P:=P) (by assumption)]<;>done)
    | (obtain ⟨a,rfl,rfl,rfl⟩:=qwT hr
       cases a<;>simp [eqGuard,binOp,kz,NO (P:=P) (by assumption)]<;>done)
    | (obtain ⟨a,b,rfl,rfl,e⟩:=qQk hr
       first
         | (simp only [Option.some.injEq] at e;subst e;simp [eqGuard,binOp,Op.stringOp,ByteArray.toList_eq];done)
         | (split at e
            · rename_i hle
              simp only [Option.some.injEq] at e;subst e
              have h63:¬ (((a.size+b.size:Nat):Int) > IntKind.i64.max):=by
                simp only [IntKind.max,IntKind.bits,IntKind.signed];simp;omega
              have h1:(Op.stringOp .add a b).run P w=.ok (.string (a++b)) w:=by
                unfold Op.stringOp;simp only [if_neg h63];rfl
              simp [eqGuard,binOp,h1]
            · cases e))
theorem uv{t:TypeId}{l:Array (String×TypeId)}(ht:P.underlying t=some (.interface l))(d:Nat):(Op.equalIn (d+1) t .nilIface .nilIface).run P w=.ok true w:=by
 simp [Op.equalIn,qk ht]
theorem uk{t:TypeId}{l:Array (String×TypeId)}(ht:P.underlying t=some (.interface l))(d:Nat)(u:TypeId)(x:Value):(Op.equalIn (d+1) t (.iface u x) .nilIface).run P w=.ok false w:=by
 simp [Op.equalIn,qk ht]
theorem Su(hwm:qO w=m){op:BinOp}{t:TypeId}{x y:Operand}(h:AS P op t x y=some (ro,xl)){v:Value}(hr:rd ro (xl.map ρ) m=some v) :
  (do eqGuard op t x y (ρ x) (ρ y);binOp op t (ρ x) (ρ y):Sem Value).run P w=.ok v w:=by
 unfold AS at h
 split at h
 ·rename_i hif
  have hu:∃ l,P.underlying t=some (.interface l):=by
   unfold qwf at hif
   split at hif
   ·exact ⟨_,by assumption⟩
   ·cases hif
  obtain ⟨l,hu⟩:=hu
  unfold qjK at h
  split at h
  case h_2=>cases h
  split at h
  ·obtain ⟨rfl,rfl⟩:=qJ h
   have hr:eqI false (ρ x) (ρ (.const .nilIface))=some v:=hr
   obtain ⟨hy,⟨hx,rfl⟩ | ⟨⟨u,z,hx⟩,rfl⟩⟩:=TL hr
   ·rw [hx,hy];simp [eqGuard,binOp,kz,uv (P:=P) hu]
   ·rw [hx,hy];simp [eqGuard,binOp,kz,uk (P:=P) hu]
  ·obtain ⟨rfl,rfl⟩:=qJ h
   have hr:eqI true (ρ x) (ρ (.const .nilIface))=some v:=hr
   obtain ⟨hy,⟨hx,rfl⟩ | ⟨⟨u,z,hx⟩,rfl⟩⟩:=TL hr
   ·rw [hx,hy];simp [eqGuard,binOp,kz,uv (P:=P) hu]
   ·rw [hx,hy];simp [eqGuard,binOp,kz,uk (P:=P) hu]
  ·cases h
 ·exact qqT hwm h hr
theorem run_sliceBound{y:Nat}{c:BoundsCode}{k:IntKind}{i:Int}(h0:0≤i)(h1:i≤y):(Instr.sliceBound (.int k i) y c).run P w=.ok i.toNat w:=by
 simp [Instr.sliceBound,asIntOf,h0,h1]
theorem pz{size:Nat}{a:Option Addr}{cap:Nat}{lo hi:Int}{v:Value}(h:xG size a cap lo hi=some v) :
  0≤lo∧lo≤hi∧hi≤cap∧v=.slice (if cap=lo.toNat then a else a.map (·.add (lo.toNat*size))) (hi.toNat - lo.toNat) (cap - lo.toNat):=by
 unfold xG at h
 split at h
 ·rename_i e;exact ⟨e.1,e.2.1,e.2.2,by simpa using h.symm⟩
 ·cases h
theorem pj{size:Nat}{a:Addr}{cap:Nat}{lo hi:Int}{v:Value}(h:qqD size a cap lo hi=some v) :
  0≤lo∧lo≤hi∧hi≤cap∧v=.slice (some (if cap=lo.toNat then a else a.add (lo.toNat*size))) (hi.toNat - lo.toNat) (cap - lo.toNat):=by
 unfold qqD at h
 split at h
 ·rename_i e;exact ⟨e.1,e.2.1,e.2.2,by simpa using h.symm⟩
 ·cases h
theorem OJ{size:Nat}{a:Option Addr}{cap:Nat}{lo hi mx:Int}{v:Value}(h:qyZ size a cap lo hi mx=some v) :
  0≤lo∧lo≤hi∧hi≤mx∧mx≤cap∧v=.slice (if mx.toNat=lo.toNat then a else a.map (·.add (lo.toNat*size))) (hi.toNat - lo.toNat) (mx.toNat - lo.toNat):=by
 unfold qyZ at h
 split at h
 ·rename_i e;exact ⟨e.1,e.2.1,e.2.2.1,e.2.2.2,by simpa using h.symm⟩
 ·cases h
theorem pq{s:ByteArray}{lo hi:Int}{v:Value}(h:qqC s lo hi=some v):0≤lo∧lo≤hi∧hi≤s.size∧v=.string (s.extract lo.toNat hi.toNat):=by
 unfold qqC cutB at h
 split at h
 ·rename_i e;exact ⟨e.1,e.2.1,e.2.2,by simpa using h.symm⟩
 ·cases h
theorem Mt{t:TypeId}{x:Operand}{lo hi:Option Operand}(h:nC P t x lo hi=some (ro,xl)){v:Value}(hr:rd ro (xl.map ρ) m=some v) :
  (Instr.sliceAt t (ρ x) (lo.map ρ) (hi.map ρ) none).run P w=.ok v w:=by
 unfold nC at h
 split at h
 ·rename_i e hu
  obtain ⟨i,hi',h⟩:=Option.map_eq_some_iff.1 h
  obtain ⟨rfl,rfl⟩:=Prod.mk.injEq ..▸h
  have hz:=qo (P:=P) (w:=w) hi'
  cases lo<;>cases hi<;>simp only [Option.isSome,Option.toList_none,Option.toList_some,List.append_nil,List.cons_append,List.nil_append,List.map_cons,List.map_nil,rd,rdp,RO.reads] at hr
  all_goals obtain ⟨a,n,c,hx,e⟩:=ru hr
  ·obtain ⟨h0,h1,h2,rfl⟩:=pz e
   have h2':n≤c:=by omega
   simp [Instr.sliceAt,Instr.slice,qk hu,hx,Instr.sliceBounds,hz]
  ·obtain ⟨k,hi,hy,e⟩:=ZV e
   obtain ⟨h0,h1,h2,rfl⟩:=pz e
   simp [Instr.sliceAt,Instr.slice,qk hu,hx,hy,Instr.sliceBounds,run_sliceBound h1 h2,hz]
  ·obtain ⟨k,lo,hy,e⟩:=ZV e
   obtain ⟨h0,h1,h2,rfl⟩:=pz e
   simp [Instr.sliceAt,Instr.slice,qk hu,hx,hy,Instr.sliceBounds,run_sliceBound h0 h1,hz]
  ·obtain ⟨k,k',lo,hi,hy,hy',e⟩:=sl e
   obtain ⟨h0,h1,h2,rfl⟩:=pz e
   have h3:lo≤(hi.toNat:Int):=by omega
   simp [Instr.sliceAt,Instr.slice,qk hu,hx,hy,hy',Instr.sliceBounds,run_sliceBound h0 h3,run_sliceBound (Int.le_trans h0 h1) h2,hz]
 ·rename_i hu
  obtain ⟨rfl,rfl⟩:=qJ h
  cases lo<;>cases hi<;>simp only [Option.isSome,Option.toList_none,Option.toList_some,List.append_nil,List.cons_append,List.nil_append,List.map_cons,List.map_nil,rd,rdp,RO.reads] at hr
  all_goals obtain ⟨s,hx,e⟩:=Hl hr
  ·obtain ⟨h0,h1,h2,rfl⟩:=pq e
   simp [Instr.sliceAt,Instr.slice,qk hu,hx,Instr.sliceBounds]
  ·obtain ⟨k,hi,hy,e⟩:=ZV e
   obtain ⟨h0,h1,h2,rfl⟩:=pq e
   simp [Instr.sliceAt,Instr.slice,qk hu,hx,hy,Instr.sliceBounds,run_sliceBound h1 h2]
  ·obtain ⟨k,lo,hy,e⟩:=ZV e
   obtain ⟨h0,h1,h2,rfl⟩:=pq e
   simp [Instr.sliceAt,Instr.slice,qk hu,hx,hy,Instr.sliceBounds,run_sliceBound h0 h1]
  ·obtain ⟨k,k',lo,hi,hy,hy',e⟩:=sl e
   obtain ⟨h0,h1,h2,rfl⟩:=pq e
   have h3:lo≤(hi.toNat:Int):=by omega
   simp [Instr.sliceAt,Instr.slice,qk hu,hx,hy,hy',Instr.sliceBounds,run_sliceBound h0 h3,run_sliceBound (Int.le_trans h0 h1) h2]
 ·rename_i arr hu
  split at h
  case h_2=>cases h
  rename_i n0 e hu2
  obtain ⟨i,hi',h⟩:=Option.map_eq_some_iff.1 h
  obtain ⟨rfl,rfl⟩:=Prod.mk.injEq ..▸h
  have hz:=qo (P:=P) (w:=w) hi'
  cases lo<;>cases hi<;>simp only [Option.isSome,Option.toList_none,Option.toList_some,List.append_nil,List.cons_append,List.nil_append,List.map_cons,List.map_nil,rd,rdp,RO.reads] at hr
  all_goals obtain ⟨a,hx,e⟩:=ci hr
  ·obtain ⟨h0,h1,h2,rfl⟩:=pj e
   simp [Instr.sliceAt,Instr.slice,qk hu,qk hu2,hx,Instr.sliceBounds,hz,asAddr,Instr.sureAddr]
  ·obtain ⟨k,hi,hy,e⟩:=ZV e
   obtain ⟨h0,h1,h2,rfl⟩:=pj e
   simp [Instr.sliceAt,Instr.slice,qk hu,qk hu2,hx,hy,Instr.sliceBounds,run_sliceBound h1 h2,hz,asAddr,Instr.sureAddr]
  ·obtain ⟨k,lo,hy,e⟩:=ZV e
   obtain ⟨h0,h1,h2,rfl⟩:=pj e
   simp [Instr.sliceAt,Instr.slice,qk hu,qk hu2,hx,hy,Instr.sliceBounds,run_sliceBound h0 h1,hz,asAddr,Instr.sureAddr]
  ·obtain ⟨k,k',lo,hi,hy,hy',e⟩:=sl e
   obtain ⟨h0,h1,h2,rfl⟩:=pj e
   have h3:lo≤(hi.toNat:Int):=by omega
   simp [Instr.sliceAt,Instr.slice,qk hu,qk hu2,hx,hy,hy',Instr.sliceBounds,run_sliceBound h0 h3,run_sliceBound (Int.le_trans h0 h1) h2,hz,asAddr,Instr.sureAddr]
 ·cases h
theorem HI{t:TypeId}{x:Operand}{lo hi mx:Option Operand}(h:gV P t x lo hi mx=some (ro,xl)){v:Value}(hr:rd ro (xl.map ρ) m=some v) :
  (Instr.sliceAt t (ρ x) (lo.map ρ) (hi.map ρ) (mx.map ρ)).run P w=.ok v w:=by
 unfold gV at h
 split at h
 case h_2=>cases h
 rename_i e hi mx hu
 obtain ⟨i,hi',h⟩:=Option.map_eq_some_iff.1 h
 obtain ⟨rfl,rfl⟩:=Prod.mk.injEq ..▸h
 have hz:=qo (P:=P) (w:=w) hi'
 cases lo<;>simp only [Option.isSome,Option.toList_none,Option.toList_some,List.cons_append,List.nil_append,List.map_cons,List.map_nil,rd,rdp,RO.reads] at hr
 all_goals obtain ⟨a,n,c,hx,e⟩:=ru hr
 ·obtain ⟨k,k',hi,mx,hy,hy',e⟩:=sl e
  obtain ⟨h0,h1,h2,h3,rfl⟩:=OJ e
  have h4:hi≤(mx.toNat:Int):=by omega
  simp [Instr.sliceAt,Instr.slice,qk hu,hx,hy,hy',Instr.sliceBounds,run_sliceBound (Int.le_trans h1 h2) h3,run_sliceBound h1 h4,hz]
 ·obtain ⟨k0,lo,hy0,e⟩:=ZV e
  obtain ⟨k,k',hi,mx,hy,hy',e⟩:=sl e
  obtain ⟨h0,h1,h2,h3,rfl⟩:=OJ e
  have h4:hi≤(mx.toNat:Int):=by omega
  have h5:lo≤(hi.toNat:Int):=by omega
  simp [Instr.sliceAt,Instr.slice,qk hu,hx,hy,hy',hy0,Instr.sliceBounds,run_sliceBound (Int.le_trans h0 (Int.le_trans h1 h2)) h3,run_sliceBound (Int.le_trans h0 h1) h4,run_sliceBound h0 h5,hz]
end sound
end Go.Fw
namespace Go.Fw
section sound
variable {P:Program} {ro:RO} {xl:List Operand} {m:Mem} {w:World} {ρ:Operand→Value} {v:Value}
theorem run_getObj_map{r:Nat}{es:Array MapEntry}{c:Nat}(h:qO w r=some (.map es c)):(getObj r).run P w=.ok (.map es c) w:=by
 have h':w.heap[r]?=some (.map es c):=h
 simp [getObj,Sem.run,h']
theorem qqi{ats:Array TypeId}{args:List Operand}{ty:TypeId}(h:HN P ats args=some (ro,xl))(hr:rd ro (xl.map ρ) m=some v)(hw:qO w=m) :
  (Builtin.len_ ats ty (args.map ρ).toArray).run P w=.ok v w:=by
 unfold HN at h
 split at h
 ·obtain ⟨rfl,rfl⟩:=qJ h
  rename_i e hu
  obtain ⟨t,ht,hu⟩:=Option.bind_eq_some_iff.1 hu
  match args,hr with
  | [x],hr =>
   obtain ⟨a,n,c,hx,e⟩:=ru hr
   simp only [Option.some.injEq] at e;subst e
   simp [Builtin.len_,ht,hx,qk hu,goInt]
  | [],hr=>simp [rd,rdp,RO.reads] at hr
  | _::_::_,hr=>simp [rd,rdp,RO.reads] at hr
 ·obtain ⟨rfl,rfl⟩:=qJ h
  rename_i hu
  obtain ⟨t,ht,hu⟩:=Option.bind_eq_some_iff.1 hu
  match args,hr with
  | [x],hr =>
   obtain ⟨s,hx,e⟩:=Hl hr
   simp only [Option.some.injEq] at e;subst e
   simp [Builtin.len_,ht,hx,qk hu,goInt]
  | [],hr=>simp [rd,rdp,RO.reads] at hr
  | _::_::_,hr=>simp [rd,rdp,RO.reads] at hr
 ·obtain ⟨rfl,rfl⟩:=qJ h
  rename_i hu
  obtain ⟨t,ht,hu⟩:=Option.bind_eq_some_iff.1 hu
  match args,hr with
  | [x],hr =>
   have hr:(entriesOf m (ρ x)).map (λes=>Value.int .i64 es.size)=some v:=hr
   obtain ⟨es,he,rfl⟩:=Option.map_eq_some_iff.1 hr
   unfold entriesOf at he
   split at he
   ·rename_i hx
    simp only [Option.some.injEq] at he;subst he
    simp [Builtin.len_,ht,hx,qk hu,goInt]
   ·rename_i r hx
    split at he
    ·rename_i es' c hr'
     simp only [Option.some.injEq] at he;subst he
     subst hw
     simp [Builtin.len_,ht,hx,qk hu,goInt,run_getObj_map hr']
    ·cases he
   ·cases he
  | [],hr=>simp [rd,rdm,RO.reads] at hr
  | _::_::_,hr=>simp [rd,rdm,RO.reads] at hr
 ·cases h
theorem qqP{ats:Array TypeId}{args:List Operand}{ty:TypeId}(h:HO P ats args=some (ro,xl))(hr:rd ro (xl.map ρ) m=some v) :
  (Builtin.cap_ ats ty (args.map ρ).toArray).run P w=.ok v w:=by
 unfold HO at h
 split at h
 ·obtain ⟨rfl,rfl⟩:=qJ h
  rename_i e hu
  obtain ⟨t,ht,hu⟩:=Option.bind_eq_some_iff.1 hu
  match args,hr with
  | [x],hr =>
   obtain ⟨a,n,c,hx,e⟩:=ru hr
   simp only [Option.some.injEq] at e;subst e
   simp [Builtin.cap_,ht,hx,qk hu,goInt]
  | [],hr=>simp [rd,rdp,RO.reads] at hr
  | _::_::_,hr=>simp [rd,rdp,RO.reads] at hr
 ·cases h
theorem qwy{ats:Array TypeId}{ty:TypeId}{args:List Value}(hr:rd .mn args m=some v):(Builtin.min_ ats ty args.toArray).run P w=.ok v w:=by
 have Eu:∀ a b u,mn2 a b=some u→(Builtin.min2 a b).run P w=.ok u w:=λa b u h=>by
  unfold mn2 at h
  split at h
  ·split at h
   ·rename_i hk
    simp only [Option.some.injEq] at h;subst h;simp [Builtin.min2]
   ·cases h
  ·simp only [Option.some.injEq] at h;subst h
   simp only [Builtin.min2,Op.stringOp,ByteArray.toList_eq,Sem.run_bind,Sem.run_pure,Result.andThen_ok,asBool]
  ·cases h
 cases args with
 | nil=>simp [rd,rdp,RO.reads] at hr
 | cons x r =>
  have hr:bW mn2 x r=some v:=hr
  show (r.foldlM Builtin.min2 x).run P w=.ok v w
  induction r generalizing x with
  | nil=>simp only [bW,Option.some.injEq] at hr;subst hr;simp
  | cons y r ih =>
   simp only [bW] at hr
   obtain ⟨u,hu,hr⟩:=Option.bind_eq_some_iff.1 hr
   simp only [List.foldlM_cons,Sem.run_bind,Eu _ _ _ hu,Result.andThen_ok]
   exact ih u hr hr
theorem qwZ{ats:Array TypeId}{ty:TypeId}{args:List Value}(hr:rd .mx args m=some v):(Builtin.max_ ats ty args.toArray).run P w=.ok v w:=by
 have Eu:∀ a b u,mx2 a b=some u→(Builtin.max2 a b).run P w=.ok u w:=λa b u h=>by
  unfold mx2 at h
  split at h
  ·split at h
   ·rename_i hk
    simp only [Option.some.injEq] at h;subst h;simp [Builtin.max2]
   ·cases h
  ·cases h
 cases args with
 | nil=>simp [rd,rdp,RO.reads] at hr
 | cons x r =>
  have hr:bW mx2 x r=some v:=hr
  show (r.foldlM Builtin.max2 x).run P w=.ok v w
  induction r generalizing x with
  | nil=>simp only [bW,Option.some.injEq] at hr;subst hr;simp
  | cons y r ih =>
   simp only [bW] at hr
   obtain ⟨u,hu,hr⟩:=Option.bind_eq_some_iff.1 hr
   simp only [List.foldlM_cons,Sem.run_bind,Eu _ _ _ hu,Result.andThen_ok]
   exact ih u hr hr
theorem Sp{o:Oper}{c:Call}(ho:o.op=.call c)(h:nE P c c.args.toList=some (ro,xl))(hq:ro.quiet=true)(hr:rd ro (xl.map ρ) m=some v)(hw:qO w=m)(hρ:∀ f,ρ (.func f)=.func (.func f) #[] #[]) :
  (execOp ρ o).run P w=.ok (.value v) w:=by
 obtain ⟨callee,args,argTypes⟩:=c
 obtain ⟨args⟩:=args
 simp only [nE] at h
 cases callee with
 | invoke r n=>cases h
 | value f =>
  simp only [PO] at h
  cases f with
  | func f =>
   simp only at h
   obtain ⟨fn,hf,h⟩:=Option.bind_eq_some_iff.1 h
   split at h
   ·obtain ⟨rfl,rfl⟩:=qJ h;simp [RO.quiet] at hq
   ·split at h
    ·rename_i hb
     obtain ⟨rfl,rfl⟩:=qJ h
     simp only [Bool.and_eq_true,beq_iff_eq] at hb
     obtain ⟨⟨hb,hname⟩,horg⟩:=hb
     obtain ⟨h1,h2⟩:=qwO hname horg
     match args,hr with
     | [x,y],hr =>
      have hr:ixB (ρ x) (ρ y)=some v:=hr
      obtain ⟨s,c,hx,hy,rfl⟩:=qwe hr
      have:=run_callFunc_extern hf (by rw [hname];decide) hb h1 h2 #[.string s,.int .u8 c] w
      rw [run_indexByte_string] at this
      simp only [Result.andThen_ok] at this
      simp only [execOp,ho,resolve,hρ,List.map_toArray,List.map_cons,List.map_nil,Sem.run_bind,Sem.run_pure,Result.andThen_ok,Deferred.ofValue,invoke,hx,hy,Array.append_empty,Array.empty_append,this]
     | [],hr=>simp [rd,rdm,RO.reads] at hr
     | [_],hr=>simp [rd,rdm,RO.reads] at hr
     | _::_::_::_,hr=>simp [rd,rdm,RO.reads] at hr
    ·split at h
     ·rename_i hb
      obtain ⟨s,hs,h⟩:=Option.map_eq_some_iff.1 h
      obtain ⟨rfl,rfl⟩:=Prod.mk.injEq ..▸h
      simp only [Bool.and_eq_true,beq_iff_eq] at hb
      obtain ⟨⟨hb,hname⟩,horg⟩:=hb
      obtain ⟨h0n,h1,h2⟩:=qwu hname horg
      unfold Ti at hs
      split at hs
      ·rename_i e he
       obtain ⟨i,hi,hsz⟩:=Option.map_eq_some_iff.1 hs
       obtain ⟨t,h0,ht⟩:=Option.bind_eq_some_iff.1 he
       match args,hr with
       | [x,y],hr =>
        have hr:ovQ m s (ρ x) (ρ y)=some v:=hr
        rw [← hw] at hr
        have:=run_callFunc_extern hf (by simpa using h0n) hb h1 h2 #[ρ x,ρ y] w
        rw [qvT hr h0 ht hi hsz] at this
        simp only [Result.andThen_ok] at this
        simp only [execOp,ho,resolve,hρ,List.map_toArray,List.map_cons,List.map_nil,Sem.run_bind,Sem.run_pure,Result.andThen_ok,Deferred.ofValue,invoke,Array.append_empty,Array.empty_append,this]
       | [],hr=>simp [rd,rdm,RO.reads] at hr
       | [_],hr=>simp [rd,rdm,RO.reads] at hr
       | _::_::_::_,hr=>simp [rd,rdm,RO.reads] at hr
      ·cases hs
     ·cases h
  | tmp t=>obtain ⟨rfl,rfl⟩:=qJ h;simp [RO.quiet] at hq
  | _=>cases h
 | builtin b =>
  simp only [lG] at h
  split at h
  ·have:=qqi (w:=w) (ty:=o.type) h hr hw
   simp only [execOp,ho,resolve,List.map_toArray,Sem.run_bind,Sem.run_pure,Result.andThen_ok,invoke,builtin,this]
  ·unfold HR at h
   split at h
   ·split at h
    ·obtain ⟨i,hi,h⟩:=Option.bind_eq_some_iff.1 h
     obtain ⟨z,hz,h⟩:=Option.bind_eq_some_iff.1 h
     split at h
     ·obtain ⟨rfl,rfl⟩:=qJ h;simp [RO.quiet] at hq
     ·cases h
    ·obtain ⟨i,hi,h⟩:=Option.bind_eq_some_iff.1 h
     split at h
     ·obtain ⟨rfl,rfl⟩:=qJ h;simp [RO.quiet] at hq
     ·cases h
    ·obtain ⟨i,hi,h⟩:=Option.bind_eq_some_iff.1 h
     obtain ⟨z,hz,h⟩:=Option.bind_eq_some_iff.1 h
     split at h
     ·obtain ⟨rfl,rfl⟩:=qJ h;simp [RO.quiet] at hq
     ·cases h
    ·cases h
   ·cases h
  ·unfold AR at h
   split at h
   ·obtain ⟨i,hi,h⟩:=Option.map_eq_some_iff.1 h
    obtain ⟨rfl,rfl⟩:=Prod.mk.injEq ..▸h;simp [RO.quiet] at hq
   ·cases h
  ·obtain ⟨rfl,rfl⟩:=qJ h
   have:=qwy (P:=P) (w:=w) (ats:=argTypes) (ty:=o.type) (args:=args.map ρ) hr
   simp only [execOp,ho,resolve,List.map_toArray,Sem.run_bind,Sem.run_pure,Result.andThen_ok,invoke,builtin,this]
  ·obtain ⟨rfl,rfl⟩:=qJ h
   have:=qwZ (P:=P) (w:=w) (ats:=argTypes) (ty:=o.type) (args:=args.map ρ) hr
   simp only [execOp,ho,resolve,List.map_toArray,Sem.run_bind,Sem.run_pure,Result.andThen_ok,invoke,builtin,this]
  ·unfold gY at h
   obtain ⟨z,hz,h⟩:=Option.map_eq_some_iff.1 h
   obtain ⟨rfl,rfl⟩:=Prod.mk.injEq ..▸h;simp [RO.quiet] at hq
  ·unfold nD at h
   split at h
   ·obtain ⟨z,hz,h⟩:=Option.map_eq_some_iff.1 h
    obtain ⟨rfl,rfl⟩:=Prod.mk.injEq ..▸h;simp [RO.quiet] at hq
   ·obtain ⟨rfl,rfl⟩:=qJ h;simp [RO.quiet] at hq
   ·cases h
  ·have:=qqP (w:=w) (ty:=o.type) h hr
   simp only [execOp,ho,resolve,List.map_toArray,Sem.run_bind,Sem.run_pure,Result.andThen_ok,invoke,builtin,this]
  ·cases h
theorem run_places:∀ (fs:List Field),(fs.all λf=>(P.info? f.type).isSome)=true→(fs.mapM (λf=>do pure (f.offset,← Go.sizeOf f.type):Field→Sem (Nat×Nat))).run P w=.ok (fs.map λf=>(f.offset,((P.info? f.type).map (·.size)).getD 0)) w
 | [],_=>rfl
 | f::fs,h=>by
  simp only [List.all_cons,Bool.and_eq_true] at h
  obtain ⟨i,hi⟩:=Option.isSome_iff_exists.1 h.1
  have ih:=run_places fs h.2
  simp only [List.mapM_cons,Sem.run_bind,qo hi,Result.andThen_ok,Sem.run_pure,ih,List.map_cons,hi,Option.map_some,Option.getD_some]
theorem Cb{fields:Array Field}:∀ {l:List Nat} {ps:List (Nat×Nat)},placesOf P l fields=some ps →
  (l.map λi=>(fields.map λf=>(f.offset,((P.info? f.type).map (·.size)).getD 0))[i]?)=ps.map some
 | [],ps,h=>by simp only [placesOf,List.mapM_nil,pure,Option.some.injEq] at h;subst h;rfl
 | i::l,ps,h=>by
  simp only [placesOf,List.mapM_cons,bind,pure,Option.bind_eq_some_iff,Option.some.injEq] at h
  obtain ⟨p,⟨f,hf,hp⟩,r,hr,rfl⟩:=h
  obtain ⟨j,hj,rfl⟩:=Option.map_eq_some_iff.1 hp
  simp only [List.map_cons,Array.getElem?_map,hf,Option.map_some,hj,Option.getD_some]
  congr 1
  have:=Cb (l:=l) (ps:=r) (by simpa [placesOf,bind,pure] using hr)
  simpa using this
theorem PX{t:TypeId}{parts:List (Nat×Operand)}(h:nF P t parts=some (ro,xl))(hr:rd ro (xl.map ρ) m=some v) :
  (Instr.build t ((parts.map λ(i,x)=>(i,ρ x)).toArray)).run P w=.ok v w:=by
 unfold nF at h
 obtain ⟨⟨z,n⟩,hz,h⟩:=Option.bind_eq_some_iff.1 h
 unfold zeroOf at hz
 obtain ⟨i,hi,hz⟩:=Option.bind_eq_some_iff.1 hz
 obtain ⟨z',hz',e⟩:=Option.map_eq_some_iff.1 hz
 simp only [Prod.mk.injEq] at e
 obtain ⟨rfl,rfl⟩:=e
 have hzero:(zeroValue t).run P w=.ok z' w:=by simp [zeroValue,zX hi,hz']
 split at h
 ·rename_i fields hu
  split at h
  case isFalse=>cases h
  rename_i hf
  obtain ⟨ps,hps,h⟩:=Option.map_eq_some_iff.1 h
  obtain ⟨rfl,rfl⟩:=Prod.mk.injEq ..▸h
  obtain ⟨l,hl,rfl⟩:=Option.map_eq_some_iff.1 hr
  have hpl:=run_places (P:=P) (w:=w) fields.toList (by
   unfold NL at hf
   rw [← Array.all_toList] at hf
   exact hf)
  have hm:=Cb hps
  have hfill:=oO (λi:Nat=>(fields.map λf=>(f.offset,((P.info? f.type).map (·.size)).getD 0))[i]?) (parts.map λ(i,x)=>(i,ρ x)) ps z'.cells l
   (by rw [List.map_map,← hm,List.map_map];rfl) (by rw [List.map_map];rw [List.map_map] at hl;exact hl)
  simp only [Instr.build,Sem.run_bind,hzero,Result.andThen_ok,qk hu]
  rw [Array.mapM_eq_mapM_toList]
  simp only [Sem.run_map,hpl,Result.andThen_ok]
  have e1:(λi:Nat=>(List.map (λf=>(f.offset,((P.info? f.type).map (·.size)).getD 0)) fields.toList).toArray[i]?)=λi:Nat=>(fields.map λf=>(f.offset,((P.info? f.type).map (·.size)).getD 0))[i]?:=by
   funext i;simp
  rw [e1]
  simp only [hfill] at *
  first | rfl | (rw [hfill];rfl)
 ·rename_i k e hu
  obtain ⟨j,hj,h⟩:=Option.map_eq_some_iff.1 h
  obtain ⟨rfl,rfl⟩:=Prod.mk.injEq ..▸h
  obtain ⟨l,hl,rfl⟩:=Option.map_eq_some_iff.1 hr
  have hfill:=oO (λi=>some (i*j.size,j.size)) (parts.map λ(i,x)=>(i,ρ x)) (parts.map λp=>(p.1*j.size,j.size)) z'.cells l
   (by simp [List.map_map]) (by rw [List.map_map];rw [List.map_map] at hl;exact hl)
  simp [Instr.build,hzero,qk hu,qo hj,hfill]
 ·cases h
theorem It{t:TypeId}{x i:Operand}{ok:Bool}(h:gW P t x i ok=some (ro,xl))(hr:rd ro (xl.map ρ) m=some v)(hw:qO w=m):(Instr.lookup t (ρ x) (ρ i) ok).run P w=.ok v w:=by
 unfold gW at h
 obtain ⟨⟨ag,ks,e⟩,hk,h⟩:=Option.bind_eq_some_iff.1 h
 obtain ⟨z,hz,h⟩:=Option.map_eq_some_iff.1 h
 obtain ⟨rfl,rfl⟩:=Prod.mk.injEq ..▸h
 unfold lF at hk
 split at hk
 case h_2=>cases hk
 rename_i k e' hu
 obtain ⟨ks',hl,hk⟩:=Option.map_eq_some_iff.1 hk
 simp only [Prod.mk.injEq] at hk
 obtain ⟨rfl,rfl,rfl⟩:=hk
 unfold zeroOf at hz
 obtain ⟨inf,hi,hz⟩:=Option.bind_eq_some_iff.1 hz
 obtain ⟨z',hz',rfl⟩:=Option.map_eq_some_iff.1 hz
 have hzero:(zeroValue e').run P w=.ok z' w:=by simp [zeroValue,zX hi,hz']
 simp only [List.map_cons,List.map_nil,rd,RO.reads,rdm] at hr
 split at hr
 case isFalse=>cases hr
 rename_i hok
 obtain ⟨es,he,hr⟩:=Option.bind_eq_some_iff.1 hr
 obtain ⟨r,hf,hr⟩:=Option.map_eq_some_iff.1 hr
 have h1:=aB (w:=w) (em:=es.isEmpty) hl hok
 have h2:=mL (w:=w) hl (Wj hok).1 hf
 have tail:(do
   Instr.checkKey es.isEmpty 10000 k (ρ i)
   let (v,found) ← match ← Instr.findKey k (ρ i) es.toList with
    | some (_,v)=>pure (v,true)
    | none=>pure (← zeroValue e',false)
   pure (if ok then .tuple #[v,.bool found] else v):Sem Value).run P w=.ok v w:=by
  simp only [Sem.run_bind,h1,h2,Result.andThen_ok]
  cases r with
  | none =>
   simp only at hr
   simp only [Sem.run_bind,hzero,Result.andThen_ok,Sem.run_pure]
   subst hr;rfl
  | some jv =>
   obtain ⟨j,u⟩:=jv
   simp only at hr
   simp only []
   subst hr;rfl
 unfold entriesOf at he
 split at he
 ·rename_i hx
  simp only [Option.some.injEq] at he;subst he
  rw [← tail]
  simp only [Instr.lookup,Sem.run_bind,qk hu,Result.andThen_ok,hx,Sem.run_pure]
  rfl
 ·rename_i b hx
  split at he
  ·rename_i es' c hr'
   simp only [Option.some.injEq] at he;subst he
   subst hw
   rw [← tail]
   simp only [Instr.lookup,Sem.run_bind,qk hu,Result.andThen_ok,hx,run_getObj_map hr',Sem.run_pure]
   rfl
  ·cases he
 ·cases he
theorem qqS{a:Addr}{n:Nat}{l:List Value}(h:jD m a 0 n=some l){bs:List UInt8}(hb:cO l=some bs)(hw:qO w=m){k:Nat}:(Conv.bytesToString (.slice (some a) n k)).run P w=.ok (.string ⟨bs.toArray⟩) w:=by
 have h1:=run_loadCellsFrom (P:=P) hw a n 0 #[] l h
 have go:∀ (l:List Value) (bs:List UInt8) (s:ByteArray),cO l=some bs →
   (forIn l s (λc r=>do
    let s:=r
    let .int .u8 n:=c | do { (stuck "bytesToString: byte expected":Sem Unit);pure (ForInStep.yield s) }
    pure (ForInStep.yield (s.push (UInt8.ofNat n.toNat)))):Sem ByteArray).run P w=.ok (s++⟨bs.toArray⟩) w:=by
  intro l
  induction l with
  | nil =>
   intro bs s hb
   simp only [cO,Option.some.injEq] at hb;subst hb
   have:s++⟨([]:List UInt8).toArray⟩=s:=by apply ByteArray.ext;simp
   rw [this];simp
  | cons v l ih =>
   intro bs s hb
   unfold cO at hb
   split at hb
   ·cases ‹_::_=[]›
   ·rename_i n r e
    cases e
    obtain ⟨bs',hb',rfl⟩:=Option.map_eq_some_iff.1 hb
    rw [List.forIn_cons]
    simp only [Sem.run_bind,Sem.run_pure,Result.andThen_ok]
    rw [ih bs' _ hb']
    congr 1
    apply ByteArray.ext
    apply Array.ext'
    simp
   ·cases hb
 have:=go l bs .empty hb
 simp only [Conv.bytesToString,loadCells,Sem.run_bind,h1,Result.andThen_ok]
 rw [← Array.forIn_toList]
 simp at this ⊢
 refine (congrArg (λr=>Result.andThen r λa w'=>.ok (Value.string a) w') this).trans ?_
 simp
theorem ND{r:Nat}{mm:Option Nat}{a b:Nat}{s:Array Nat}(h:qO w r=some (.mapIter mm a s b)):(getObj r).run P w=.ok (.mapIter mm a s b) w:=by
 have h':w.heap[r]?=some (.mapIter mm a s b):=h
 simp [getObj,Sem.run,h']
theorem NP{it:Operand}(hr:rd .ent [ρ it] m=some v)(hw:qO w=m):(Instr.entry (ρ it)).run P w=.ok v w:=by
 obtain ⟨⟨b,o,s⟩,hx,e⟩:=ci hr
 unfold By at e
 split at e
 case isFalse=>cases e
 rename_i ho
 simp only at ho;subst ho
 split at e
 case h_2=>cases e
 rename_i mb since seen last hb
 split at e
 case h_2=>cases e
 rename_i stamp hs
 split at e
 case h_2=>cases e
 rename_i es clock hm
 split at e
 case isFalse=>cases e
 rename_i hc
 obtain ⟨en,he,rfl⟩:=Option.map_eq_some_iff.1 e
 subst hw;subst hc
 simp only [Instr.entry,hx,Sem.run_bind,ND hb,Result.andThen_ok,hs,run_getObj_map hm,bne_self_eq_false,Bool.false_eq_true,if_false,Sem.run_pure,he]
theorem GA{o:Oper}(h:qz P o=some (ro,xl))(hq:ro.quiet=true)(hr:rd ro (xl.map ρ) m=some v)(hw:qO w=m)(hρ:∀ f,ρ (.func f)=.func (.func f) #[] #[]) :
  (execOp ρ o).run P w=.ok (.value v) w:=by
 have h0:=GB h
 clear h
 rcases h0 with h | h
 case inr=>cases h;simp [RO.quiet] at hq
 obtain ⟨dst,op,type,pos,after,guard⟩:=o
 cases op<;>simp only [qjV,reduceCtorEq] at h
 case call c=>exact Sp rfl h hq hr hw hρ
 case binOp op t x y u =>
  have:=Su (w:=w) (by assumption) h hr
  simp only [Sem.run_bind] at this
  simp only [execOp,Sem.run_bind,this]
  rfl
 case move x=>obtain ⟨rfl,rfl⟩:=qJ h;simp only [List.map_cons,List.map_nil,rd,rdp,RO.reads,Option.some.injEq] at hr;subst hr;simp [execOp]
 case assign x=>obtain ⟨rfl,rfl⟩:=qJ h;simp only [List.map_cons,List.map_nil,rd,rdp,RO.reads,Option.some.injEq] at hr;subst hr;simp [execOp]
 case pick c a b =>
  obtain ⟨rfl,rfl⟩:=qJ h
  obtain ⟨t,hx,e⟩:=qkv hr
  simp only [Option.some.injEq] at e;subst e
  cases t<;>simp [execOp,hx,asBool]
 case nilCheck x =>
  obtain ⟨rfl,rfl⟩:=qJ h
  obtain ⟨a,hx,e⟩:=ci hr
  simp only [Option.some.injEq] at e;subst e
  simp [execOp,hx]
 case fieldAddr s x f =>
  split at h
  ·rename_i fields hu
   obtain ⟨fl,hf,h⟩:=Option.bind_eq_some_iff.1 h
   obtain ⟨i,hi,h⟩:=Option.bind_eq_some_iff.1 h
   split at h
   ·cases h
   ·rename_i hz
    obtain ⟨rfl,rfl⟩:=qJ h
    obtain ⟨a,hx,e⟩:=ci hr
    simp only [Option.some.injEq] at e;subst e
    simp [execOp,Instr.fieldAt,qk hu,hf,hx,Instr.sureAddr,fieldPlace,qo hi,hz]
  ·cases h
 case indexAddr t x i =>
  split at h
  ·rename_i e hu
   obtain ⟨j,hj,h⟩:=Option.map_eq_some_iff.1 h
   obtain ⟨rfl,rfl⟩:=Prod.mk.injEq ..▸h
   obtain ⟨a,n,c,hx,e⟩:=ru hr
   obtain ⟨k,i,hi,e⟩:=ZV e
   split at e
   ·rename_i hb
    cases a with
    | none=>simp at e
    | some a =>
     simp only [Option.map_some,Option.some.injEq] at e;subst e
     simp [execOp,Instr.indexAt,qk hu,hx,hi,asIntOf,qo hj,hb]
   ·cases e
  ·rename_i n e hu
   obtain ⟨j,hj,h⟩:=Option.map_eq_some_iff.1 h
   obtain ⟨rfl,rfl⟩:=Prod.mk.injEq ..▸h
   obtain ⟨a,hx,e⟩:=ci hr
   obtain ⟨k,i,hi,e⟩:=ZV e
   split at e
   ·rename_i hb
    simp only [Option.some.injEq] at e;subst e
    simp [execOp,Instr.indexAt,qk hu,hx,hi,asIntOf,qo hj,hb,Instr.sureAddr]
   ·cases e
  ·cases h
 case load t x =>
  split at h
  ·rename_i hp
   obtain ⟨rfl,rfl⟩:=qJ h
   obtain ⟨a,hx,e⟩:=ci hr
   simp [execOp,Instr.loadAt,hx,Instr.sureAddr,loadVar,ff hp,aD hw e,-run_load]
  ·split at h
   ·rename_i hp
    obtain ⟨i,hi,h⟩:=Option.map_eq_some_iff.1 h
    obtain ⟨rfl,rfl⟩:=Prod.mk.injEq ..▸h
    obtain ⟨a,hx,e⟩:=ci hr
    obtain ⟨l,hl,rfl⟩:=Option.map_eq_some_iff.1 e
    simp [execOp,Instr.loadAt,hx,Instr.sureAddr,loadVar,sm hp,qo hi,loadCells,run_loadCellsFrom hw a _ _ _ _ hl]
   ·cases h
 case store t a x=>obtain ⟨i,hi,h⟩:=Option.map_eq_some_iff.1 h;obtain ⟨rfl,rfl⟩:=Prod.mk.injEq ..▸h;simp [RO.quiet] at hq
 case alloc t=>obtain ⟨i,hi,h⟩:=Option.map_eq_some_iff.1 h;obtain ⟨rfl,rfl⟩:=Prod.mk.injEq ..▸h;simp [RO.quiet] at hq
 case box t x=>obtain ⟨rfl,rfl⟩:=qJ h;simp [RO.quiet] at hq
 case unOp op t x =>
  cases op<;>simp only [qjX,reduceCtorEq] at h
  ·split at h
   ·obtain ⟨rfl,rfl⟩:=qJ h
    obtain ⟨k,n,hx,e⟩:=ZV hr
    simp only [Option.some.injEq] at e;subst e
    simp [execOp,hx,Op.unary,Op.intArith]
   ·cases h
  ·split at h
   ·obtain ⟨rfl,rfl⟩:=qJ h
    obtain ⟨k,n,hx,e⟩:=ZV hr
    simp only [Option.some.injEq] at e;subst e
    simp [execOp,hx,Op.unary,Op.intBits]
   ·cases h
  ·obtain ⟨rfl,rfl⟩:=qJ h
   obtain ⟨b,hx,e⟩:=qkv hr
   simp only [Option.some.injEq] at e;subst e
   simp [execOp,hx,Op.unary]
 case convert s d x =>
  split at h
  ·rename_i k k' h1 h2
   obtain ⟨rfl,rfl⟩:=qJ h
   obtain ⟨k0,n,hx,e⟩:=ZV hr
   simp only [Option.some.injEq] at e;subst e
   simp [execOp,hx,convert,qk h1,qk h2,Conv.intToInt]
  ·rename_i h1 h2
   obtain ⟨rfl,rfl⟩:=qJ h
   obtain ⟨s,hx,e⟩:=Hl hr
   simp only [Option.some.injEq] at e;subst e
   simp [execOp,hx,convert,qk h1,qk h2]
  ·rename_i e h1 h2
   split at h
   ·rename_i he
    obtain ⟨rfl,rfl⟩:=qJ h
    have he':P.underlying e=some (.int .u8):=he
    obtain ⟨a,n,c,hx,e⟩:=ru hr
    obtain ⟨l,hl,e⟩:=Option.bind_eq_some_iff.1 e
    obtain ⟨bs,hb,rfl⟩:=Option.map_eq_some_iff.1 e
    cases a with
    | none =>
     simp only [ldS,Option.some.injEq] at hl;subst hl
     simp only [cO,Option.some.injEq] at hb;subst hb
     simp only [execOp,hx,convert,Sem.run_bind,qk h1,qk h2,Result.andThen_ok,qk he',Conv.bytesToString,Sem.run_pure]
     rfl
    | some a =>
     simp only [ldS] at hl
     have:=qqS (P:=P) hl hb hw (k:=c)
     simp only [execOp,hx,convert,Sem.run_bind,qk h1,qk h2,Result.andThen_ok,qk he',this,Sem.run_pure]
   ·cases h
  ·rename_i e h1 h2
   split at h
   ·obtain ⟨rfl,rfl⟩:=qJ h;simp [RO.quiet] at hq
   ·cases h
  ·split at h
   ·obtain ⟨rfl,rfl⟩:=qJ h;simp [RO.quiet] at hq
   ·cases h
  ·cases h
 case makeInterface xt x =>
  split at h
  ·cases h
  ·rename_i hif
   obtain ⟨rfl,rfl⟩:=qJ h
   simp only [List.map_cons,List.map_nil,rd,rdp,RO.reads,Option.some.injEq] at hr;subst hr
   simp only [Bool.or_eq_true,not_or,Bool.not_eq_true,Option.isNone_eq_false_iff] at hif
   obtain ⟨h1,h2⟩:=hif
   obtain ⟨d,hd⟩:=Option.isSome_iff_exists.1 h2
   unfold qwf at h1
   cases d<;>simp [hd] at h1<;>simp [execOp,Instr.makeInterface,qk hd]
 case field t x f =>
  split at h
  ·rename_i fields hu
   obtain ⟨fl,hf,h⟩:=Option.bind_eq_some_iff.1 h
   split at h
   ·rename_i hp
    obtain ⟨rfl,rfl⟩:=qJ h
    obtain ⟨cs,hx,e⟩:=ss hr
    simp [execOp,Instr.field,qk hu,hf,hx,asAgg,aP hp e]
   ·split at h
    ·rename_i hp
     obtain ⟨i,hi,h⟩:=Option.map_eq_some_iff.1 h
     obtain ⟨rfl,rfl⟩:=Prod.mk.injEq ..▸h
     obtain ⟨cs,hx,e⟩:=ss hr
     simp only [Option.some.injEq] at e;subst e
     simp [execOp,Instr.field,qk hu,hf,hx,asAgg,aO hp hi]
    ·cases h
  ·cases h
 case extract x i =>
  obtain ⟨rfl,rfl⟩:=qJ h
  obtain ⟨vs,hx,e⟩:=qQD hr
  simp [execOp,Instr.extract,hx,e]
 case makeSlice t l c =>
  split at h
  ·obtain ⟨i,hi,h⟩:=Option.bind_eq_some_iff.1 h
   obtain ⟨z,hz,h⟩:=Option.bind_eq_some_iff.1 h
   split at h
   ·obtain ⟨rfl,rfl⟩:=qJ h;simp [RO.quiet] at hq
   ·cases h
  ·cases h
 case build t parts =>
  have:=PX (w:=w) h hr
  obtain ⟨parts⟩:=parts
  simp only [execOp,List.map_toArray,Sem.run_bind,this,Result.andThen_ok,Sem.run_pure]
 case buildSlice t len parts =>
  unfold aF at h
  split at h
  ·obtain ⟨i,hi,h⟩:=Option.bind_eq_some_iff.1 h
   obtain ⟨z,hz,h⟩:=Option.bind_eq_some_iff.1 h
   split at h
   ·obtain ⟨rfl,rfl⟩:=qJ h;simp [RO.quiet] at hq
   ·cases h
  ·cases h
 case slice t x lo hi mx =>
  cases mx with
  | none =>
   simp only [Option.isNone_none,if_true] at h
   have:=Mt (w:=w) h hr
   simp [execOp,this]
  | some mx =>
   simp only [Option.isNone_some,Bool.false_eq_true,if_false] at h
   have:=HI (w:=w) h hr
   simp only [Option.map_some] at this
   simp [execOp,this]
 case index t x i =>
  split at h
  ·rename_i n e hu
   split at h
   ·rename_i hp
    obtain ⟨j,hj,h⟩:=Option.map_eq_some_iff.1 h
    obtain ⟨rfl,rfl⟩:=Prod.mk.injEq ..▸h
    obtain ⟨cs,hx,e⟩:=ss hr
    obtain ⟨k,i,hi,e⟩:=ZV e
    split at e
    ·rename_i hb
     simp [execOp,Instr.index,hx,hi,asIntOf,qk hu,hb,qo hj,aP hp e]
    ·cases e
   ·split at h
    ·rename_i hp
     obtain ⟨j,hj,h⟩:=Option.map_eq_some_iff.1 h
     obtain ⟨rfl,rfl⟩:=Prod.mk.injEq ..▸h
     obtain ⟨cs,hx,e⟩:=ss hr
     obtain ⟨k,i,hi,e⟩:=ZV e
     split at e
     ·rename_i hb
      simp only [Option.some.injEq] at e;subst e
      simp [execOp,Instr.index,hx,hi,asIntOf,qk hu,hb,qo hj,aO hp hj]
     ·cases e
    ·cases h
  ·rename_i hu
   obtain ⟨rfl,rfl⟩:=qJ h
   obtain ⟨s,hx,e⟩:=Hl hr
   obtain ⟨k,i,hi,e⟩:=ZV e
   split at e
   ·rename_i hb
    obtain ⟨b,hb',rfl⟩:=Option.map_eq_some_iff.1 e
    simp [execOp,Instr.index,hx,hi,asIntOf,qk hu,hb,hb']
   ·cases e
  ·cases h
 case makeFunc fn first captured =>
  obtain ⟨rfl,rfl⟩:=qJ h
  have hr:some (Value.func fn (((first.toList++captured.toList).map ρ).take first.size).toArray (((first.toList++captured.toList).map ρ).drop first.size).toArray)=some v:=hr
  simp only [Option.some.injEq] at hr;subst hr
  have e1:((first.toList++captured.toList).map ρ).take first.size=(first.map ρ).toList:=by simp
  have e2:((first.toList++captured.toList).map ρ).drop first.size=(captured.map ρ).toList:=by simp
  rw [e1,e2,Array.toArray_toList,Array.toArray_toList]
  simp only [execOp,Instr.makeFunc,Sem.run_bind,Sem.run_pure,Result.andThen_ok]
 case makeMap t r =>
  split at h
  ·obtain ⟨rfl,rfl⟩:=qJ h;simp [RO.quiet] at hq
  ·cases h
 case lookup t x i ok =>
  have:=It (w:=w) h hr hw
  simp [execOp,this]
 case mapUpdate t a k x=>obtain ⟨z,hz,h⟩:=Option.map_eq_some_iff.1 h;obtain ⟨rfl,rfl⟩:=Prod.mk.injEq ..▸h;simp [RO.quiet] at hq
 case insert t a k x=>obtain ⟨z,hz,h⟩:=Option.map_eq_some_iff.1 h;obtain ⟨rfl,rfl⟩:=Prod.mk.injEq ..▸h;simp [RO.quiet] at hq
 case range t x =>
  split at h
  ·obtain ⟨rfl,rfl⟩:=qJ h;simp [RO.quiet] at hq
  ·cases h
 case next it isS =>
  split at h
  ·cases h
  ·obtain ⟨rfl,rfl⟩:=qJ h;simp [RO.quiet] at hq
 case entry it =>
  obtain ⟨rfl,rfl⟩:=qJ h
  have:=NP (P:=P) hr hw
  simp only [execOp,Sem.run_bind,this,Result.andThen_ok,Sem.run_pure]
end sound
end Go.Fw
namespace Go.Fw
def UY(P:Program)(w:World)(K:Value→Mem→Prop):Result Next→Prop
 | .ok (.value v) w'=>jg w w'∧K v (qO w')
 | .ok .skip w'=>jg w w'∧K undef (qO w')
 | .ok (.enter f args) w'=>jg w w'∧Calls P f args w' λe w''=>∃ v,e=.returned v∧jg w' w''∧K v (qO w'')
 | _=>False
def Er(P:Program)(o:Oper)(ρ:Operand→Value)(m:Mem)(K:Value→Mem→Prop):Prop :=
 ∀ w,qO w=m→UY P w K ((execOp ρ o).run P w)
section sound
variable {P:Program} {ro:RO} {xl:List Operand} {m m':Mem} {w:World} {ρ:Operand→Value} {K:Value→Mem→Prop}
theorem kj(w:World):qO w w.heap.size=none:=by simp [qO]
theorem yk(w:World)(o:Obj):qO { w with heap:=w.heap.push o }=(qO w).set w.heap.size o:=by
 funext b
 simp only [qO,Mem.set,Array.getElem?_push]
theorem BA(w:World)(o:Obj):jg w { w with heap:=w.heap.push o }:=⟨rfl,rfl,by simp,rfl,Nat.le_refl _⟩
theorem gK(w:World)(c:Array Value)(t:TypeId):jg w { w with heap:=w.heap.push (.cells c t) }:=⟨rfl,rfl,by simp,rfl,Nat.le_refl _⟩
theorem Gu(w:World)(n:Nat)(h:w.drawn≤n):jg w { w with drawn:=n }:=⟨rfl,rfl,Nat.le_refl _,rfl,h⟩
theorem Mk{w:World}{a:Addr}{v:Value}{m':Mem}(h:qqq (qO w) a v=some m') :
  qO (w.setCell a v)=m'∧jg w (w.setCell a v)∧(∃ u,w.cell? a=some u)∧w.frozen? a=false:=by
 unfold qqq at h
 split at h
 ·rename_i c t fr hb
  split at h
  ·cases h
  ·rename_i hc
   simp only [Option.some.injEq] at h;subst h
   simp only [Bool.or_eq_true,Bool.and_eq_true,Bool.not_eq_true',not_or,decide_eq_true_eq,decide_eq_false_iff_not,Decidable.not_not] at hc
   obtain ⟨⟨hs,hlt⟩,hfr⟩:=hc
   have hs':a.spot.isSome=false:=by simpa using hs
   have hb':w.heap[a.block]?=some (.cells c t fr):=hb
   refine ⟨?_,⟨rfl,rfl,by simp [World.setCell],rfl,Nat.le_refl _⟩,⟨c[a.off],?_⟩,?_⟩
   ·funext b
    simp only [qO,World.setCell,Mem.set,Array.getElem?_modify]
    by_cases e:b=a.block
    ·subst e;simp [hb',hs']
    ·rw [if_neg (λh=>e h.symm),if_neg e]
   ·simp only [World.cell?,hb',hs',Bool.false_eq_true,if_false]
    exact Array.getElem?_eq_getElem hlt
   ·simp only [World.frozen?,hb']
    simpa using hfr
 ·cases h
theorem xW(a:Addr):∀ (l:List Value) (i:Nat) (w:World) (m':Mem),jW (qO w) a i l=some m' →
  ∃ w',(storeCells a l i).run P w=.ok () w'∧qO w'=m'∧jg w w'
 | [],i,w,m',h=>by simp only [jW,Option.some.injEq] at h;subst h;exact ⟨w,by simp [storeCells],rfl,jg.nB w⟩
 | v::r,i,w,m',h=>by
  simp only [jW] at h
  split at h
  ·rename_i hv
   obtain ⟨m1,h1,h2⟩:=Option.bind_eq_some_iff.1 h
   obtain ⟨e1,s1,⟨u,hu⟩,hf⟩:=Mk h1
   rw [← e1] at h2
   obtain ⟨w',hr,e2,s2⟩:=xW a r (i+1) (w.setCell (a.add i) v) m' h2
   refine ⟨w',?_,e2,s1.trans s2⟩
   have hst:(store (a.add i) v).run P w=.ok () (w.setCell (a.add i) v):=by rw [run_store P w _ v _ hv,hu];simp [hf]
   simp only [storeCells,Sem.run_bind,hst,Result.andThen_ok,hr]
  ·cases h
theorem xV{t:TypeId}{i:TypeInfo}{z:Value}(h:P.info? t=some i)(hz:i.zero=some z):(zeroValue t).run P w=.ok z w:=by
 simp [zeroValue,zX h,hz]
theorem wrap_i64{n:Int}(h0 : -9223372036854775808≤n)(h1:n≤9223372036854775807):IntKind.i64.wrap n=n:=by
 simp only [IntKind.wrap,IntKind.bits,IntKind.signed,Bool.true_and]
 by_cases h:n % 2 ^ 64≥2 ^ 63
 ·rw [if_pos (by simpa using h)];omega
 ·rw [if_neg (by simpa using h)];omega
theorem cu(z:Array Value)(n:Nat)(_hz:0 < z.size):(Array.range (n*z.size)).map (λi=>z[i % z.size]!)=(List.replicate n z.toList).flatten.toArray:=by
 apply Array.ext'
 simp only [Array.toList_map,Array.toList_range]
 induction n with
 | zero=>simp
 | succ n ih =>
  rw [Nat.succ_mul,List.range_add,List.map_append,ih,List.replicate_succ',List.flatten_append]
  congr 1
  simp only [List.map_map,List.flatten_cons,List.flatten_nil,List.append_nil]
  apply List.ext_getElem
  ·simp
  ·intro i h1 h2
   simp only [List.length_map,List.length_range] at h1
   simp [Nat.mod_eq_of_lt h1,h1]
theorem VM(z:Array Value)(n:Nat):Builtin.zeroCells z n=(List.replicate n z.toList).flatten.toArray:=by
 by_cases hz:0 < z.size
 ·exact cu z n hz
 ·have h0:z.size=0:=by omega
  have h1:z.toList=[]:=List.eq_nil_of_length_eq_zero (by simpa using h0)
  have h2:(List.replicate n ([]:List Value)).flatten=[]:=by simp
  rw [h1,h2]
  apply Array.eq_empty_of_size_eq_zero
  simp [Builtin.zeroCells,h0]
theorem add_add(a:Addr)(i j:Nat):(a.add i).add j=a.add (i+j):=by
 unfold Addr.add
 by_cases hi:i=0<;>by_cases hj:j=0<;>simp [hi,hj,Nat.add_assoc]
theorem ni(a:Addr)(n:Nat):∀ (l:List Value) (m:Mem) (i:Nat),jW m (a.add n) i l=jW m a (n+i) l
 | [],m,i=>rfl
 | v::r,m,i=>by
  simp only [jW,add_add]
  split
  ·congr 1;funext m';rw [ni a n r m' (i+1)];rfl
  ·rfl
theorem tF(m:Mem)(a:Addr)(n:Nat)(l:List Value):jW m (a.add n) 0 l=jW m a n l:=ni a n l m 0
theorem BC{t e:TypeId}{i:TypeInfo}{z:Value}(hu:P.underlying t=some (.slice e))(hi:P.info? e=some i)(hz:i.zero=some z)(_hsz:z.cells.size=i.size)(_hpos:0 < i.size){y:Value}{k:Nat}{news:List Value}(hlen:(match y with | .slice _ n _=>some n | .string s=>some s.size | _=>none)=some k)(hfirst:∀ w,qO w=m→(Builtin.firstCells i.size k y).run P w=.ok news.toArray w){ats:Array TypeId}{at1:TypeId}(h0:ats[0]?=some t)(h1:ats[1]?=some at1){d1:TypeDesc}(hu1:P.underlying at1=some d1)(hnz:d1=.string∨∃ e',d1=.slice e'){ty:TypeId}{base:Option Addr}{n cap:Nat}(hw:qO w=m)(hx:Mz i.size i.bytes z.cells.toList e m K base n cap news k) :
  ∃ v' w',(Builtin.append_ ats ty #[.slice base n cap,y]).run P w=.ok v' w'∧jg w w'∧K v' (qO w'):=by
 obtain ⟨hb,h62,hin,hgrow⟩:=hx
 have hlenOf:(Builtin.lenOf y).run P w=.ok k w:=by
  cases y<;>simp at hlen<;>simp [Builtin.lenOf,hlen]
 have hzr:(do pure ((← underlying at1) matches .int _):Sem Bool).run P w=.ok false w:=by
  rcases hnz with rfl | ⟨e',rfl⟩<;>simp [qk hu1]
 by_cases hc:n+k≤cap
 ·have hin:=hin hc
  cases base with
  | none =>
   refine ⟨.slice none (n+k) cap,w,?_,jg.nB w,by rw [hw];exact hin⟩
   rcases hnz with rfl | ⟨e',rfl⟩ <;>
    simp [Builtin.append_,h0,h1,qk hu,qk hu1,qo hi,hlenOf,hc,hfirst w hw]
  | some a =>
   obtain ⟨m',hst,hk⟩:=hin
   subst hw
   obtain ⟨w',hrs,he,hs⟩:=xW (P:=P) (a.add (n*i.size)) news 0 w m' (by rw [← hst];exact tF _ _ _ _)
   refine ⟨.slice (some a) (n+k) cap,w',?_,hs,by rw [he];exact hk⟩
   rcases hnz with rfl | ⟨e',rfl⟩ <;>
    simp [Builtin.append_,h0,h1,qk hu,qk hu1,qo hi,hlenOf,hc,hfirst w rfl,hrs]
 ·have hlt:cap < n+k:=by omega
  obtain ⟨old,hold,hk⟩:=hgrow hlt
  have hfit:=growslice_fits hlt hb
  have hold':∀ w2,qO w2=m→(Builtin.firstCells i.size n (.slice base n cap)).run P w2=.ok old.toArray w2:=λw2 hw2=>by
   cases base with
   | none=>simp only [ldS,Option.some.injEq] at hold;subst hold;simp [Builtin.firstCells]
   | some b=>simp only [ldS] at hold;simp [Builtin.firstCells,loadCells,run_loadCellsFrom hw2 b _ 0 _ _ hold]
  have hz':∀ w2,(zeroValue e).run P w2=.ok z w2:=λw2=>xV (P:=P) (w:=w2) hi hz
  let q:=Question.appendCap (n+k) cap e
  let w2:World:={ w with drawn:=w.drawn+1 }
  let nc:=q.cut (w.tape w.drawn q)
  have hnc:n+k≤nc:=by simp only [nc,q,Question.cut];omega
  have hcells:=VM z.cells (nc - (n+k))
  have hfin:=hk nc w.heap.size hnc (by rw [← hw];exact kj w)
  refine ⟨.slice (some ⟨w.heap.size,0,none⟩) (n+k) nc,{ w2 with heap:=w2.heap.push (.cells (old++news++(List.replicate (nc - (n+k)) z.cells.toList).flatten).toArray e) },?_,⟨rfl,rfl,by simp [w2],rfl,Nat.le_succ _⟩,?_⟩
  ·have hnot:¬ (281474976710656 < Builtin.nextslicecap (n+k) cap*i.bytes):=by omega
   have h63:¬ (9223372036854775807 < (n:Int)+k∧i.bytes=0):=by omega
   have hold2:=hold' w2 hw
   have hfirst2:=hfirst w2 hw
   have hcap:(choose q).run P w=.ok nc w2:=by simp [q,nc,w2,Question.forced]
   simp only [q] at hcap
   rcases hnz with rfl | ⟨e',rfl⟩ <;>
    simp [Builtin.append_,h0,h1,qk hu,qk hu1,qo hi,hlenOf,hc,-run_choose,hcap,hold2,hfirst2,hz',zX hi,newRow,hcells,hnot]
   all_goals (rw [if_neg h63])
  ·rw [yk]
   have:qO w2=m:=hw
   rw [this]
   exact hfin
theorem MB{t e:TypeId}{i:TypeInfo}{z:Value}(hu:P.underlying t=some (.slice e))(hi:P.info? e=some i)(hz:i.zero=some z)(_hsz:z.cells.size=i.size)(_hpos:0 < i.size){k:Int}(h0:0≤k)(hkb:k*(i.bytes:Int)≤281474976710656){ats:Array TypeId}{at1:TypeId}(hat0:ats[0]?=some t)(hat1:ats[1]?=some at1)(hu1:P.underlying at1=some (.int .i64)){ty:TypeId}{base:Option Addr}{n cap:Nat}(hw:qO w=m)(hx:Mz i.size i.bytes z.cells.toList e m K base n cap (List.replicate k.toNat z.cells.toList).flatten k.toNat) :
  ∃ v' w',(Builtin.append_ ats ty #[.slice base n cap,.int .i64 k]).run P w=.ok v' w'∧jg w w'∧K v' (qO w'):=by
 obtain ⟨hb,h62,hin,hgrow⟩:=hx
 have hkk:(k.toNat:Int)=k:=Int.toNat_of_nonneg h0
 have hwrap:IntKind.i64.wrap k=k:=wrap_i64 (by omega) (by omega)
 have hz':∀ w2,(zeroValue e).run P w2=.ok z w2:=λw2=>xV (P:=P) (w:=w2) hi hz
 have hA:k.toNat*i.size=0→(List.replicate k.toNat z.cells.toList).flatten=[]:=λhk0=>by
  have:k.toNat=0:=by
   rcases Nat.mul_eq_zero.1 hk0 with h | h
   ·exact h
   ·omega
  simp [this]
 have hB:=VM z.cells k.toNat
 have hneg:¬ k < 0:=by omega
 have hbig:¬ (281474976710656 < k*(i.bytes:Int)):=by omega
 generalize (List.replicate k.toNat z.cells.toList).flatten=news at *
 by_cases hc:n+k.toNat≤cap
 ·have hin:=hin hc
  cases base with
  | none =>
   refine ⟨.slice none (n+k.toNat) cap,w,?_,jg.nB w,by rw [hw];exact hin⟩
   by_cases hk0:k.toNat*i.size=0
   all_goals simp [hk0,Builtin.append_,hat0,hat1,qk hu,qk hu1,qo hi,zX hi,asInt,asIntOf,hwrap,hneg,hbig,hc,hz' w]
  | some a =>
   obtain ⟨m',hst,hk⟩:=hin
   subst hw
   obtain ⟨w',hrs,he,hs⟩:=xW (P:=P) (a.add (n*i.size)) news 0 w m' (by rw [← hst];exact tF _ _ _ _)
   refine ⟨.slice (some a) (n+k.toNat) cap,w',?_,hs,by rw [he];exact hk⟩
   by_cases hk0:k.toNat*i.size=0
   ·rw [hA hk0] at hrs
    simp [Builtin.append_,hat0,hat1,qk hu,qk hu1,qo hi,zX hi,asInt,asIntOf,hwrap,hneg,hbig,hc,hk0,hrs]
   ·simp [Builtin.append_,hat0,hat1,qk hu,qk hu1,qo hi,zX hi,asInt,asIntOf,hwrap,hneg,hbig,hc,hk0,hz' w,hB,hrs]
 ·have hlt:cap < n+k.toNat:=by omega
  obtain ⟨old,hold,hk⟩:=hgrow hlt
  have hfit:=growslice_fits hlt hb
  have hold':∀ w2,qO w2=m→(Builtin.firstCells i.size n (.slice base n cap)).run P w2=.ok old.toArray w2:=λw2 hw2=>by
   cases base with
   | none=>simp only [ldS,Option.some.injEq] at hold;subst hold;simp [Builtin.firstCells]
   | some b=>simp only [ldS] at hold;simp [Builtin.firstCells,loadCells,run_loadCellsFrom hw2 b _ 0 _ _ hold]
  let q:=Question.appendCap (n+k.toNat) cap e
  let w2:World:={ w with drawn:=w.drawn+1 }
  let nc:=q.cut (w.tape w.drawn q)
  have hnc:n+k.toNat≤nc:=by simp only [nc,q,Question.cut];omega
  have hcells:=VM z.cells (nc - (n+k.toNat))
  have hfin:=hk nc w.heap.size hnc (by rw [← hw];exact kj w)
  refine ⟨.slice (some ⟨w.heap.size,0,none⟩) (n+k.toNat) nc,{ w2 with heap:=w2.heap.push (.cells (old++news++(List.replicate (nc - (n+k.toNat)) z.cells.toList).flatten).toArray e) },?_,⟨rfl,rfl,by simp [w2],rfl,Nat.le_succ _⟩,?_⟩
  ·have hnot:¬ (281474976710656 < Builtin.nextslicecap (n+k.toNat) cap*i.bytes):=by omega
   have h63:¬ (9223372036854775807 < (n:Int)+(k.toNat:Int)):=by omega
   have hold2:=hold' w2 hw
   have hcap:(choose q).run P w=.ok nc w2:=by simp [q,nc,w2,Question.forced]
   simp only [q] at hcap
   by_cases hk0:k.toNat*i.size=0
   ·have hA:=hA hk0
    simp [Builtin.append_,hat0,hat1,qk hu,qk hu1,qo hi,zX hi,asInt,asIntOf,hwrap,hneg,hbig,hc,-run_choose,hcap,hold2,hk0,hA,hz',newRow,hcells,hnot]
    all_goals first | done | (rw [if_neg (by omega)];first | rfl | done)
   ·simp [Builtin.append_,hat0,hat1,qk hu,qk hu1,qo hi,zX hi,asInt,asIntOf,hwrap,hneg,hbig,hc,-run_choose,hcap,hold2,hk0,hB,hz',newRow,hcells,hnot]
    all_goals first | done | (rw [if_neg (by omega)];first | rfl | done)
  ·rw [yk]
   have:qO w2=m:=hw
   rw [this]
   exact hfin
theorem qkV{o:Oper}{args:List Operand}{ats:Array TypeId}(ho:o.op=.call ⟨.builtin .append,⟨args⟩,ats⟩)(h:HR P ats args=some (ro,xl))(hx:xs P ro (xl.map ρ) m K):Er P o ρ m K:=by
 intro w hw
 unfold HR at h
 split at h
 case h_2=>cases h
 rename_i e hu
 split at h
 ·rename_i e' hu'
  obtain ⟨i,hi,h⟩:=Option.bind_eq_some_iff.1 h
  obtain ⟨z,hz,h⟩:=Option.bind_eq_some_iff.1 h
  split at h
  case isFalse=>cases h
  rename_i hsz
  obtain ⟨rfl,rfl⟩:=qJ h
  obtain ⟨t,ht,hu⟩:=Option.bind_eq_some_iff.1 hu
  obtain ⟨t',ht',hu'⟩:=Option.bind_eq_some_iff.1 hu'
  match args,hx with
  | [x,y],hx =>
   obtain ⟨base,n,cap,hxv,hx⟩:=cY hx
   obtain ⟨b,k,cc,hyv,news,hnews,hx⟩:=cY hx
   have:=BC (P:=P) (w:=w) (t:=t) (e:=e) hu hi hz hsz.1 hsz.2 (news:=news) (y:=.slice b k cc) (k:=k) rfl (λw hw=>by
    cases b with
    | none=>simp only [ldS,Option.some.injEq] at hnews;subst hnews;simp [Builtin.firstCells]
    | some b=>simp only [ldS] at hnews;simp [Builtin.firstCells,loadCells,run_loadCellsFrom hw b _ 0 _ _ hnews]) (at1:=t') ht ht' hu' (.inr ⟨_,rfl⟩) (ty:=o.type) hw hx
   obtain ⟨v',w',hr,hs,hk⟩:=this
   have hr':(execOp ρ o).run P w=.ok (.value v') w':=by
    simp only [execOp,ho,resolve,List.map_toArray,List.map_cons,List.map_nil,Sem.run_bind,Sem.run_pure,Result.andThen_ok,invoke,builtin,hxv,hyv,hr]
   rw [hr'];exact ⟨hs,hk⟩
  | [],hx=>exact hx.elim
  | [_],hx=>exact hx.elim
  | _::_::_::_,hx=>exact hx.elim
 ·rename_i hu'
  obtain ⟨i,hi,h⟩:=Option.bind_eq_some_iff.1 h
  split at h
  case isFalse=>cases h
  rename_i hsz
  obtain ⟨rfl,rfl⟩:=qJ h
  obtain ⟨t,ht,hu⟩:=Option.bind_eq_some_iff.1 hu
  obtain ⟨t',ht',hu'⟩:=Option.bind_eq_some_iff.1 hu'
  have hz:i.zero=some (.int .u8 0):=by
   have:=hsz.2.2
   unfold isU8 at this
   split at this
   ·assumption
   ·cases this
  match args,hx with
  | [x,y],hx =>
   obtain ⟨base,n,cap,hxv,hx⟩:=cY hx
   obtain ⟨s,hyv,hx⟩:=Pe hx
   have:=BC (P:=P) (w:=w) (t:=t) (e:=e) hu hi hz (by rw [hsz.1];rfl) (by rw [hsz.1];omega) (news:=s.data.toList.map λc=>.int .u8 c.toNat) (y:=.string s) (k:=s.size) rfl (λw _=>by
    have:s.extract 0 s.size=s:=by simp
    simp only [Builtin.firstCells,this,Sem.run_pure]
    congr 1
    apply Array.ext'
    simp) (at1:=t') ht ht' hu' (.inl rfl) (ty:=o.type) hw (by rw [hsz.1,hsz.2.1];exact hx)
   obtain ⟨v',w',hr,hs,hk⟩:=this
   have hr':(execOp ρ o).run P w=.ok (.value v') w':=by
    simp only [execOp,ho,resolve,List.map_toArray,List.map_cons,List.map_nil,Sem.run_bind,Sem.run_pure,Result.andThen_ok,invoke,builtin,hxv,hyv,hr]
   rw [hr'];exact ⟨hs,hk⟩
  | [],hx=>exact hx.elim
  | [_],hx=>exact hx.elim
  | _::_::_::_,hx=>exact hx.elim
 ·rename_i hu'
  obtain ⟨i,hi,h⟩:=Option.bind_eq_some_iff.1 h
  obtain ⟨z,hz,h⟩:=Option.bind_eq_some_iff.1 h
  split at h
  case isFalse=>cases h
  rename_i hsz
  obtain ⟨rfl,rfl⟩:=qJ h
  obtain ⟨t,ht,hu⟩:=Option.bind_eq_some_iff.1 hu
  obtain ⟨t',ht',hu'⟩:=Option.bind_eq_some_iff.1 hu'
  match args,hx with
  | [x,y],hx =>
   obtain ⟨base,n,cap,hxv,hx⟩:=cY hx
   obtain ⟨k,hyv,h0,hk,hx⟩:=IU hx
   obtain ⟨v',w',hr,hs,hk⟩:=MB (P:=P) (w:=w) (t:=t) (e:=e) hu hi hz hsz.1 hsz.2 h0 hk ht ht' hu' (ty:=o.type) hw hx
   have hr':(execOp ρ o).run P w=.ok (.value v') w':=by
    simp only [execOp,ho,resolve,List.map_toArray,List.map_cons,List.map_nil,Sem.run_bind,Sem.run_pure,Result.andThen_ok,invoke,builtin,hxv,hyv,hr]
   rw [hr'];exact ⟨hs,hk⟩
  | [],hx=>exact hx.elim
  | [_],hx=>exact hx.elim
  | _::_::_::_,hx=>exact hx.elim
 ·cases h
theorem qJg{o:Oper}{args:List Operand}{ats:Array TypeId}(ho:o.op=.call ⟨.builtin .copy,⟨args⟩,ats⟩)(h:AR P ats args=some (ro,xl))(hx:xs P ro (xl.map ρ) m K):Er P o ρ m K:=by
 intro w hw
 unfold AR at h
 split at h
 case h_2=>cases h
 rename_i e hu
 obtain ⟨i,hi,h⟩:=Option.map_eq_some_iff.1 h
 obtain ⟨rfl,rfl⟩:=Prod.mk.injEq ..▸h
 obtain ⟨t,ht,hu⟩:=Option.bind_eq_some_iff.1 hu
 match args,hx with
 | [x,y],hx =>
  obtain ⟨base,n,cap,hxv,hx⟩:=cY hx
  obtain ⟨b,k,cc,hyv,cells,hcells,hx⟩:=cY hx
  have hfirst:(Builtin.firstCells i.size (min k n) (.slice b k cc)).run P w=.ok cells.toArray w:=by
   cases b with
   | none=>simp only [ldS,Option.some.injEq] at hcells;subst hcells;simp [Builtin.firstCells]
   | some b=>simp only [ldS] at hcells;simp [Builtin.firstCells,loadCells,run_loadCellsFrom hw b _ 0 _ _ hcells]
  have hmin:k.min n=min k n:=rfl
  cases base with
  | none =>
   have hr':(execOp ρ o).run P w=.ok (.value (.int .i64 (min k n:Nat))) w:=by
    simp [execOp,ho,resolve,invoke,builtin,hxv,hyv,Builtin.copy_,ht,qk hu,Builtin.lenOf,qo hi,hmin,hfirst,goInt]
   rw [hr'];exact ⟨jg.nB w,by rw [hw];exact hx⟩
  | some a =>
   obtain ⟨m',hst,hk⟩:=hx
   subst hw
   obtain ⟨w',hrs,he,hs⟩:=xW (P:=P) a cells 0 w m' hst
   have hr':(execOp ρ o).run P w=.ok (.value (.int .i64 (min k n:Nat))) w':=by
    simp [execOp,ho,resolve,invoke,builtin,hxv,hyv,Builtin.copy_,ht,qk hu,Builtin.lenOf,qo hi,hmin,hfirst,goInt,hrs]
   rw [hr'];exact ⟨hs,by rw [he];exact hk⟩
 | [],hx=>exact hx.elim
 | [_],hx=>exact hx.elim
 | _::_::_::_,hx=>exact hx.elim
theorem run_setObj_map{r:Nat}{es:Array MapEntry}{c:Nat}{o:Obj}(h:qO w r=some (.map es c)):(setObj r o).run P w=.ok () { w with heap:=w.heap.setIfInBounds r o }∧qO { w with heap:=w.heap.setIfInBounds r o }=(qO w).set r o∧jg w { w with heap:=w.heap.setIfInBounds r o }:=by
 have h':w.heap[r]?=some (.map es c):=h
 refine ⟨by simp [setObj,Sem.run,h'],?_,⟨rfl,rfl,by simp,rfl,Nat.le_refl _⟩⟩
 funext x
 simp only [qO,Mem.set,Array.getElem?_setIfInBounds]
 by_cases e:x=r
 ·subst e
  have hlt:x < w.heap.size:=(Array.getElem?_eq_some_iff.1 h').1
  simp [hlt]
 ·have:r≠x:=λh=>e h.symm
  simp [e,this]
theorem ud{r:Nat}{mm:Option Nat}{a b:Nat}{s:Array Nat}{o:Obj}(h:qO w r=some (.mapIter mm a s b)):(setObj r o).run P w=.ok () { w with heap:=w.heap.setIfInBounds r o }∧qO { w with heap:=w.heap.setIfInBounds r o }=(qO w).set r o∧jg w { w with heap:=w.heap.setIfInBounds r o }:=by
 have h':w.heap[r]?=some (.mapIter mm a s b):=h
 refine ⟨by simp [setObj,Sem.run,h'],?_,⟨rfl,rfl,by simp,rfl,Nat.le_refl _⟩⟩
 funext x
 simp only [qO,Mem.set,Array.getElem?_setIfInBounds]
 by_cases e:x=r
 ·subst e
  have hlt:x < w.heap.size:=(Array.getElem?_eq_some_iff.1 h').1
  simp [hlt]
 ·have:r≠x:=λh=>e h.symm
  simp [e,this]
theorem ue{r:Nat}{mm:Option Nat}{a b:Nat}{s:Array Nat}(h:qO w r=some (.mapIter mm a s b)):(getObj r).run P w=.ok (.mapIter mm a s b) w:=by
 have h':w.heap[r]?=some (.mapIter mm a s b):=h
 simp [getObj,Sem.run,h']
theorem qxB{o:Oper}{args:List Operand}{ats:Array TypeId}(ho:o.op=.call ⟨.builtin .delete,⟨args⟩,ats⟩)(h:gY P ats args=some (ro,xl))(hx:xs P ro (xl.map ρ) m K):Er P o ρ m K:=by
 intro w hw
 subst hw
 unfold gY at h
 obtain ⟨⟨ag,ks,e⟩,hk,h⟩:=Option.map_eq_some_iff.1 h
 obtain ⟨rfl,rfl⟩:=Prod.mk.injEq ..▸h
 obtain ⟨t,ht,hk⟩:=Option.bind_eq_some_iff.1 hk
 unfold lF at hk
 split at hk
 case h_2=>cases hk
 rename_i k e' hu
 obtain ⟨ks',hl,hk⟩:=Option.map_eq_some_iff.1 hk
 simp only [Prod.mk.injEq] at hk
 obtain ⟨rfl,rfl,rfl⟩:=hk
 match args,hx with
 | [x,y],hx =>
  obtain ⟨r,hr,hx⟩:=CG hx
  cases r with
  | none =>
   obtain ⟨hok,hK⟩:=hx
   have h1:=aB (w:=w) (em:=true) hl hok
   have:(execOp ρ o).run P w=.ok (.value (.tuple #[])) w:=by
    simp [execOp,ho,resolve,invoke,builtin,Builtin.delete_,ht,qk hu,hr,h1]
   rw [this];exact ⟨jg.nB w,hK⟩
  | some r =>
   obtain ⟨hok,es,clock,hm,f,hf,hK⟩:=hx
   have h1:=aB (w:=w) (em:=es.isEmpty) hl hok
   have h2:=mL (w:=w) hl (Wj hok).1 hf
   cases f with
   | none =>
    obtain ⟨s1,s2,s3⟩:=run_setObj_map (P:=P) (o:=.map es clock) hm
    have:(execOp ρ o).run P w=.ok (.value (.tuple #[])) { w with heap:=w.heap.setIfInBounds r (.map es clock) }:=by
     simp [execOp,ho,resolve,invoke,builtin,Builtin.delete_,ht,qk hu,hr,h1,h2,run_getObj_map hm,s1]
    rw [this];exact ⟨s3,by rw [s2];exact hK⟩
   | some iv =>
    obtain ⟨i,v⟩:=iv
    obtain ⟨s1,s2,s3⟩:=run_setObj_map (P:=P) (o:=.map (es.eraseIdxIfInBounds i) clock) hm
    have:(execOp ρ o).run P w=.ok (.value (.tuple #[])) { w with heap:=w.heap.setIfInBounds r (.map (es.eraseIdxIfInBounds i) clock) }:=by
     simp [execOp,ho,resolve,invoke,builtin,Builtin.delete_,ht,qk hu,hr,h1,h2,run_getObj_map hm,s1]
    rw [this];exact ⟨s3,by rw [s2];exact hK⟩
 | [],hx=>exact hx.elim
 | [_],hx=>exact hx.elim
 | _::_::_::_,hx=>exact hx.elim
theorem qyY{o:Oper}{args:List Operand}{ats:Array TypeId}(ho:o.op=.call ⟨.builtin .clear,⟨args⟩,ats⟩)(h:nD P ats args=some (ro,xl))(hx:xs P ro (xl.map ρ) m K):Er P o ρ m K:=by
 intro w hw
 subst hw
 unfold nD at h
 split at h
 ·rename_i e hu
  obtain ⟨z,hz,h⟩:=Option.map_eq_some_iff.1 h
  obtain ⟨rfl,rfl⟩:=Prod.mk.injEq ..▸h
  obtain ⟨t,ht,hu⟩:=Option.bind_eq_some_iff.1 hu
  unfold zeroOf at hz
  obtain ⟨inf,hi,hz⟩:=Option.bind_eq_some_iff.1 hz
  obtain ⟨z',hz',rfl⟩:=Option.map_eq_some_iff.1 hz
  match args,hx with
  | [x],hx =>
   obtain ⟨a,n,c,hv,hx⟩:=cY hx
   cases a with
   | none =>
    have:(execOp ρ o).run P w=.ok (.value (.tuple #[])) w:=by
     simp [execOp,ho,resolve,invoke,builtin,Builtin.clear_,ht,qk hu,hv]
    rw [this];exact ⟨jg.nB w,hx⟩
   | some a =>
    obtain ⟨m',hst,hK⟩:=hx
    by_cases hn:n=0
    ·subst hn
     simp only [List.replicate_zero,List.flatten_nil,jW,Option.some.injEq] at hst
     have:(execOp ρ o).run P w=.ok (.value (.tuple #[])) w:=by
      simp [execOp,ho,resolve,invoke,builtin,Builtin.clear_,ht,qk hu,hv]
     rw [this];exact ⟨jg.nB w,by rw [hst];exact hK⟩
    ·obtain ⟨w',hrs,he,hs⟩:=xW (P:=P) a _ 0 w m' hst
     have hz0:(zeroValue e).run P w=.ok z' w:=xV hi hz'
     have hzc:(Builtin.zeroCells z'.cells n).toList=(List.replicate n z'.cells.toList).flatten:=by rw [VM]
     rw [← hzc] at hrs
     have:(execOp ρ o).run P w=.ok (.value (.tuple #[])) w':=by
      simp [execOp,ho,resolve,invoke,builtin,Builtin.clear_,ht,qk hu,hv,hn,hz0,hrs]
     rw [this];exact ⟨hs,by rw [he];exact hK⟩
  | [],hx=>exact hx.elim
  | _::_::_,hx=>exact hx.elim
 ·rename_i k e hu
  obtain ⟨rfl,rfl⟩:=qJ h
  obtain ⟨t,ht,hu⟩:=Option.bind_eq_some_iff.1 hu
  match args,hx with
  | [x],hx =>
   obtain ⟨r,hv,hx⟩:=CG hx
   cases r with
   | none =>
    have:(execOp ρ o).run P w=.ok (.value (.tuple #[])) w:=by
     simp [execOp,ho,resolve,invoke,builtin,Builtin.clear_,ht,qk hu,hv]
    rw [this];exact ⟨jg.nB w,hx⟩
   | some r =>
    obtain ⟨es,clock,hm,hK⟩:=hx
    obtain ⟨s1,s2,s3⟩:=run_setObj_map (P:=P) (o:=.map #[] clock) hm
    have:(execOp ρ o).run P w=.ok (.value (.tuple #[])) { w with heap:=w.heap.setIfInBounds r (.map #[] clock) }:=by
     simp [execOp,ho,resolve,invoke,builtin,Builtin.clear_,ht,qk hu,hv,run_getObj_map hm,s1]
    rw [this];exact ⟨s3,by rw [s2];exact hK⟩
  | [],hx=>exact hx.elim
  | _::_::_,hx=>exact hx.elim
 ·cases h
theorem qJn{o:Oper}{c:Call}(ho:o.op=.call c)(h:nE P c c.args.toList=some (ro,xl))(hx:xs P ro (xl.map ρ) m K)(hq:ro.quiet=false)(hρ:∀ f,ρ (.func f)=.func (.func f) #[] #[]):Er P o ρ m K:=by
 obtain ⟨callee,args,argTypes⟩:=c
 obtain ⟨args⟩:=args
 simp only [nE] at h
 cases callee with
 | invoke r n=>cases h
 | value f =>
  intro w hw
  simp only [PO] at h
  cases f with
  | func f =>
   simp only at h
   obtain ⟨fn,hf,h⟩:=Option.bind_eq_some_iff.1 h
   split at h
   ·rename_i hb
    obtain ⟨rfl,rfl⟩:=qJ h
    simp only [Bool.and_eq_true] at hb
    have hname:fn.name ≠ "runtime.NumGoroutine" := by simpa using hb.2
    have hbody:fn.body≠none:=by intro hh;simp [hh] at hb
    have hc:=hx w hw
    have hr:(execOp ρ o).run P w=.ok (.enter f (args.map ρ).toArray) w:=by
     simp [execOp,ho,resolve,hρ,Deferred.ofValue,invoke,callFunc,hf,hname,hbody]
    rw [hr]
    exact ⟨jg.nB w,hc⟩
   ·split at h
    ·obtain ⟨rfl,rfl⟩:=qJ h;simp [RO.quiet] at hq
    ·split at h
     ·obtain ⟨s,_,h⟩:=Option.map_eq_some_iff.1 h
      obtain ⟨rfl,rfl⟩:=Prod.mk.injEq ..▸h;simp [RO.quiet] at hq
     ·cases h
  | tmp t =>
   obtain ⟨rfl,rfl⟩:=qJ h
   have hx:fP (λf first captured=>VJ P f=true∧MC P f (first++args.map ρ++captured) m K) (ρ (.tmp t)):=hx
   obtain ⟨g,first,captured,hv,hcall,hx⟩:=qxe hx
   unfold VJ at hcall
   split at hcall
   ·rename_i fn hf
    simp only [Bool.and_eq_true] at hcall
    have hname:fn.name ≠ "runtime.NumGoroutine" := by simpa using hcall.2
    have hbody:fn.body≠none:=by intro hh;simp [hh] at hcall
    have hc:=hx w hw
    have e:(first.toList++args.map ρ++captured.toList).toArray=first++(args.map ρ).toArray++captured:=by
     apply Array.ext';simp
    have hr:(execOp ρ o).run P w=.ok (.enter g (first++(args.map ρ).toArray++captured)) w:=by
     simp [execOp,ho,resolve,hv,Deferred.ofValue,invoke,callFunc,hf,hname,hbody]
    rw [hr,← e]
    exact ⟨jg.nB w,hc⟩
   ·cases hcall
  | _=>cases h
 | builtin b =>
  simp only [lG] at h
  split at h
  ·unfold HN at h
   split at h<;>first | (cases h;done) | (obtain ⟨rfl,rfl⟩:=qJ h;simp [RO.quiet] at hq)
  ·exact qkV ho h hx
  ·exact qJg ho h hx
  ·obtain ⟨rfl,rfl⟩:=qJ h;simp [RO.quiet] at hq
  ·obtain ⟨rfl,rfl⟩:=qJ h;simp [RO.quiet] at hq
  ·exact qxB ho h hx
  ·exact qyY ho h hx
  ·unfold HO at h
   split at h<;>first | (cases h;done) | (obtain ⟨rfl,rfl⟩:=qJ h;simp [RO.quiet] at hq)
  ·cases h
theorem Mc{t:TypeId}{a k x:Operand}{n:Sem Next}(h:(lF P t).map (λz=>(RO.mup z.1 z.2.1,[a,k,x]))=some (ro,xl))(hx:xs P ro (xl.map ρ) m K)(hn:∀ w:World,n.run P w=((Instr.mapUpdate t (ρ a) (ρ k) (ρ x)).run P w).andThen λ_ w'=>.ok .skip w'):∀ w,qO w=m→UY P w K (n.run P w):=by
 intro w hw
 subst hw
 obtain ⟨⟨ag,ks,e⟩,hk,h⟩:=Option.map_eq_some_iff.1 h
 obtain ⟨rfl,rfl⟩:=Prod.mk.injEq ..▸h
 unfold lF at hk
 split at hk
 case h_2=>cases hk
 rename_i kt e' hu
 obtain ⟨ks',hl,hk⟩:=Option.map_eq_some_iff.1 hk
 simp only [Prod.mk.injEq] at hk
 obtain ⟨rfl,rfl,rfl⟩:=hk
 obtain ⟨r,hv,b,rfl,hok,es,clock,hm,f,hf,hK⟩:=CG hx
 have h1:=aB (w:=w) (em:=false) hl hok
 have h2:=mL (w:=w) hl (Wj hok).1 hf
 have h3:=qzR (P:=P) (w:=w) hok
 rw [hn]
 cases f with
 | none =>
  obtain ⟨s1,s2,s3⟩:=run_setObj_map (P:=P) (o:=.map (es.push { key:=ρ k,val:=ρ x,born:=clock }) (clock+1)) hm
  have:(Instr.mapUpdate t (ρ a) (ρ k) (ρ x)).run P w=.ok () { w with heap:=w.heap.setIfInBounds b (.map (es.push { key:=ρ k,val:=ρ x,born:=clock }) (clock+1)) }:=by
   simp [Instr.mapUpdate,qk hu,hv,run_getObj_map hm,h1,h2,s1]
  rw [this];exact ⟨s3,by rw [s2];exact hK⟩
 | some iv =>
  obtain ⟨i,v⟩:=iv
  obtain ⟨n0,e0,hn0,he0,hke,_⟩:=NI (Wj hok).1 hf
  have hi:(es[i]?).map (·.key)=some (ρ k):=by
   rw [Nat.zero_add] at hn0
   subst hn0
   rw [← Array.getElem?_toList,he0];simp [hke]
  obtain ⟨s1,s2,s3⟩:=run_setObj_map (P:=P) (o:=.map (es.modify i λe=>{ e with key:=ρ k,val:=ρ x }) clock) hm
  have:(Instr.mapUpdate t (ρ a) (ρ k) (ρ x)).run P w=.ok () { w with heap:=w.heap.setIfInBounds b (.map (es.modify i λe=>{ e with key:=ρ k,val:=ρ x }) clock) }:=by
   simp [Instr.mapUpdate,qk hu,hv,run_getObj_map hm,h1,h2,hi,h3,s1,-Option.getD_map]
  rw [this];exact ⟨s3,by rw [s2];exact hK⟩
def rX(since:Nat)(seen:Array Nat)(es:Array MapEntry):Array (Option MapEntry) :=
 (if ((es.filter λe=>!seen.contains e.born).filter λe=>decide (e.born < since)).isEmpty then #[none] else #[]) ++
  (((es.filter λe=>!seen.contains e.born).filter λe=>decide (e.born < since))++((es.filter λe=>!seen.contains e.born).filter λe=>decide (e.born≥since))).map some
theorem qqR(since:Nat)(seen:Array Nat)(es:Array MapEntry):0 < (rX since seen es).size:=by
 unfold rX
 generalize (es.filter λe=>!seen.contains e.born).filter (λe=>decide (e.born < since))=old
 by_cases ho:old.isEmpty=true
 ·simp only [ho,if_true,Array.size_append];simp;omega
 ·have:0 < old.size:=by
   rcases Nat.eq_zero_or_pos old.size with h | h
   ·exact absurd (by simpa [Array.isEmpty_iff_size_eq_zero] using h) ho
   ·exact h
  simp only [Array.size_append,Array.size_map];omega
theorem Sn{since:Nat}{seen:Array Nat}{es:Array MapEntry}(h:none∈rX since seen es):∀ e∈es.toList,seen.contains e.born=false→¬ e.born < since:=by
 intro e he hs hlt
 unfold rX at h
 simp only [Array.mem_append,Array.mem_map,reduceCtorEq,and_false,exists_false,or_false] at h
 split at h
 ·rename_i ho
  have:e∈(es.filter λe=>!seen.contains e.born).filter λe=>decide (e.born < since):=by
   simp only [Array.mem_filter,decide_eq_true_eq,Bool.not_eq_true']
   exact ⟨⟨Array.mem_toList_iff.1 he,hs⟩,hlt⟩
  rw [Array.isEmpty_iff.1 ho] at this
  simp at this
 ·simp at h
theorem Sm{since:Nat}{seen:Array Nat}{es:Array MapEntry}{e:MapEntry}(h:some e∈rX since seen es):e∈es.toList∧seen.contains e.born=false:=by
 unfold rX at h
 simp only [Array.mem_append,Array.mem_map,Option.some.injEq,exists_eq_right,Array.mem_filter,Bool.not_eq_true'] at h
 rcases h with h | h | h
 ·split at h<;>simp at h
 ·exact ⟨Array.mem_toList_iff.2 h.1.1,h.1.2⟩
 ·exact ⟨Array.mem_toList_iff.2 h.1.1,h.1.2⟩
theorem qjL{b mb since last clock:Nat}{seen:Array Nat}{es:Array MapEntry}{s:Option Nat}{ty:TypeId}(hg:(getObj b).run P w=.ok (.mapIter (some mb) since seen last) w)(hgm:(getObj mb).run P w=.ok (.map es clock) w)(hbad:(!seen.isEmpty && !es.isEmpty && es.all (λx=>decide (x.born≥last)))=false) :
  (Instr.next (.pointer (some ⟨b,0,s⟩)) false ty).run P w=((choose (.mapNext (rX since seen es).size)).run P w).andThen λi w' =>
   (match (rX since seen es)[i]? with
    | some (some e)=>do
     setObj b (.mapIter (some mb) since (seen.push e.born) clock)
     pure (.tuple #[.bool true,e.key,e.val])
    | some none=>pure (.tuple #[.bool false])
    | none=>stuck "Next: no such candidate":Sem Value).run P w':=by
 simp only [Instr.next,Sem.run_bind,hg,Result.andThen_ok,hgm,hbad,Bool.false_eq_true,if_false]
 rfl
theorem qZA{it:Operand}{dst:Option Tmp}{type:TypeId}{pos:String}{after:Array Edge}{guard:Option (Nat×Bool)}{a:Addr}(hv:ρ it=.pointer (some a))(hx:qwz (qO w) K a) :
  UY P w K ((execOp ρ { dst:=dst,op:=Op.next it false,type:=type,pos:=pos,after:=after,guard:=guard }).run P w):=by
 obtain ⟨b,o,s⟩:=a
 obtain ⟨ho,r,since,seen,last,hb,hx⟩:=hx
 simp only at ho hb
 subst ho
 have hg:=ue (P:=P) hb
 cases r with
 | none =>
  have:(execOp ρ { dst:=dst,op:=Op.next it false,type:=type,pos:=pos,after:=after,guard:=guard }).run P w=.ok (.value (.tuple #[.bool false])) w:=by
   simp [execOp,Instr.next,hv,hg]
  rw [this];exact ⟨jg.nB w,hx⟩
 | some mb =>
  obtain ⟨es,clock,hm,hbad,hover,hone⟩:=hx
  have hgm:=run_getObj_map (P:=P) hm
  have hbad':(!seen.isEmpty && !es.isEmpty && es.all (λx=>decide (x.born≥last)))=false:=hbad
  have hrun:=qjL (P:=P) (w:=w) (s:=s) (ty:=type) hg hgm hbad'
  generalize hcand:rX since seen es=cand at hrun
  have hcs:0 < cand.size:=by
   rw [← hcand];exact qqR _ _ _
  obtain ⟨i,w1,hch,hi,hw1,hs1⟩:∃ i w1,(choose (.mapNext cand.size)).run P w=.ok i w1∧i < cand.size∧qO w1=qO w∧jg w w1:=by
   by_cases hf:cand.size≤1
   ·exact ⟨0,w,by simp [Question.forced,hf],hcs,rfl,jg.nB w⟩
   ·exact ⟨(w.tape w.drawn (.mapNext cand.size)) % cand.size,{ w with drawn:=w.drawn+1 },by simp [Question.forced,hf,Question.cut],Nat.mod_lt _ hcs,rfl,Gu w _ (Nat.le_succ _)⟩
  have hci:=Array.getElem?_eq_getElem hi
  have hex:(execOp ρ { dst:=dst,op:=Op.next it false,type:=type,pos:=pos,after:=after,guard:=guard }).run P w =
    ((Instr.next (.pointer (some ⟨b,0,s⟩)) false type).run P w).andThen λv w'=>.ok (.value v) w':=by
   simp only [execOp,hv,Sem.run_bind,Sem.run_pure]
  rw [hex,hrun,hch]
  simp only [Result.andThen_ok,hci]
  cases hcv:cand[i] with
  | none =>
   simp only [Sem.run_pure,Result.andThen_ok]
   refine ⟨hs1,?_⟩
   rw [hw1]
   apply hover
   have hm0:=Array.getElem_mem hi
   rw [hcv,← hcand] at hm0
   exact Sn hm0
  | some e =>
   have hmem:e∈es.toList∧seen.contains e.born=false:=by
    have hm0:=Array.getElem_mem hi
    rw [hcv,← hcand] at hm0
    exact Sm hm0
   have hb1:qO w1 b=some (.mapIter (some mb) since seen last):=by rw [hw1];exact hb
   obtain ⟨s1,s2,s3⟩:=ud (P:=P) (o:=.mapIter (some mb) since (seen.push e.born) clock) hb1
   simp only [Sem.run_bind,s1,Result.andThen_ok,Sem.run_pure]
   refine ⟨hs1.trans s3,?_⟩
   rw [s2,hw1]
   exact hone e hmem.1 hmem.2
theorem qyF{o:Oper}(h:qz P o=some (ro,xl))(hq:ro.quiet=false)(hx:xs P ro (xl.map ρ) m K)(hρ:∀ f,ρ (.func f)=.func (.func f) #[] #[]):Er P o ρ m K:=by
  have h0:=GB h
  clear h
  rcases h0 with h | h
  case inr=>cases h;simp [xs] at hx
  obtain ⟨dst,op,type,pos,after,guard⟩:=o
  cases op<;>simp only [qjV,reduceCtorEq] at h
  case call c=>exact qJn rfl h hx hq hρ
  case makeInterface xt x =>
    split at h
    · cases h
    · obtain ⟨rfl,rfl⟩:=qJ h;simp [RO.quiet] at hq
  case binOp op t x y u =>
    unfold AS at h
    split at h
    · unfold qjK at h
      split at h
      case h_2=>cases h
      split at h<;>first | (cases h;done) | (obtain ⟨rfl,rfl⟩:=qJ h;simp [RO.quiet] at hq)
    unfold HP at h
    split at h<;>first
      | (cases h;done)
      | (obtain ⟨rfl,rfl⟩:=qJ h;simp [RO.quiet] at hq;done)
      | (unfold BE at h
         split at h
         · obtain ⟨rfl,rfl⟩:=qJ h;simp [RO.quiet] at hq
         · split at h
           · split at h
             · cases h
             · obtain ⟨rfl,rfl⟩:=qJ h;simp [RO.quiet] at hq
           · cases h)
      | (split at h
         · cases h
         · obtain ⟨ks,hl,h⟩:=Option.map_eq_some_iff.1 h
           obtain ⟨rfl,rfl⟩:=Prod.mk.injEq ..▸h;simp [RO.quiet] at hq)
  case move x=>obtain ⟨rfl,rfl⟩:=qJ h;simp [RO.quiet] at hq
  case assign x=>obtain ⟨rfl,rfl⟩:=qJ h;simp [RO.quiet] at hq
  case pick c a b=>obtain ⟨rfl,rfl⟩:=qJ h;simp [RO.quiet] at hq
  case entry it=>obtain ⟨rfl,rfl⟩:=qJ h;simp [RO.quiet] at hq
  case nilCheck x=>obtain ⟨rfl,rfl⟩:=qJ h;simp [RO.quiet] at hq
  case fieldAddr s x f =>
    split at h
    · obtain ⟨fl,hf,h⟩:=Option.bind_eq_some_iff.1 h
      obtain ⟨i,hi,h⟩:=Option.bind_eq_some_iff.1 h
      split at h
      · cases h
      · obtain ⟨rfl,rfl⟩:=qJ h;simp [RO.quiet] at hq
    · cases h
  case indexAddr t x i =>
    split at h
    · obtain ⟨j,hj,h⟩:=Option.map_eq_some_iff.1 h
      obtain ⟨rfl,rfl⟩:=Prod.mk.injEq ..▸h;simp [RO.quiet] at hq
    · obtain ⟨j,hj,h⟩:=Option.map_eq_some_iff.1 h
      obtain ⟨rfl,rfl⟩:=Prod.mk.injEq ..▸h;simp [RO.quiet] at hq
    · cases h
  case load t x =>
    split at h
    · obtain ⟨rfl,rfl⟩:=qJ h;simp [RO.quiet] at hq
    · split at h
      · obtain ⟨i,hi,h⟩:=Option.map_eq_some_iff.1 h
        obtain ⟨rfl,rfl⟩:=Prod.mk.injEq ..▸h;simp [RO.quiet] at hq
      · cases h
  case store t a x =>
    obtain ⟨i,hi,h⟩:=Option.map_eq_some_iff.1 h
    obtain ⟨rfl,rfl⟩:=Prod.mk.injEq ..▸h
    intro w hw
    subst hw
    obtain ⟨a',ha,hsz,m',hst,hK⟩:=Ry hx
    obtain ⟨w',hr,e',s'⟩:=xW (P:=P) _ _ _ _ _ hst
    have:(execOp ρ { dst:=dst,op:=Op.store t a x,type:=type,pos:=pos,after:=after,guard:=guard }).run P w=.ok .skip w':=by
      simp [execOp,Instr.storeAt,ha,Instr.sureAddr,storeVar,qo hi,hsz,hr]
    rw [this]
    exact ⟨s',by rw [e'];exact hK⟩
  case alloc t =>
    obtain ⟨z,hz,h⟩:=Option.map_eq_some_iff.1 h
    obtain ⟨rfl,rfl⟩:=Prod.mk.injEq ..▸h
    unfold zeroOf at hz
    obtain ⟨i,hi,hz⟩:=Option.bind_eq_some_iff.1 hz
    obtain ⟨z',hz',rfl⟩:=Option.map_eq_some_iff.1 hz
    intro w hw
    subst hw
    simp only [List.map_nil,xs] at hx
    have:=hx w.heap.size (kj w)
    have hr:(execOp ρ { dst:=dst,op:=Op.alloc t,type:=type,pos:=pos,after:=after,guard:=guard }).run P w =
        .ok (.value (.pointer (some ⟨w.heap.size,0,none⟩))) { w with heap:=w.heap.push (.cells z'.cells t) }:=by
      simp [execOp,Instr.alloc,xV hi hz',newVar,newRow]
    rw [hr]
    exact ⟨gK _ _ _,by rw [yk];simpa using this⟩
  case box t x =>
    obtain ⟨rfl,rfl⟩:=qJ h
    intro w hw
    subst hw
    simp only [List.map_cons,List.map_nil,xs] at hx
    have:=hx w.heap.size (kj w)
    have hr:(execOp ρ { dst:=dst,op:=Op.box t x,type:=type,pos:=pos,after:=after,guard:=guard }).run P w =
        .ok (.value (.pointer (some ⟨w.heap.size,0,none⟩))) { w with heap:=w.heap.push (.cells (ρ x).cells t) }:=by
      simp [execOp,Instr.box,newVar,newRow]
    rw [hr]
    exact ⟨gK _ _ _,by rw [yk];exact this⟩
  case unOp op t x =>
    cases op<;>simp only [qjX,reduceCtorEq] at h
    · split at h
      · obtain ⟨rfl,rfl⟩:=qJ h;simp [RO.quiet] at hq
      · cases h
    · split at h
      · obtain ⟨rfl,rfl⟩:=qJ h;simp [RO.quiet] at hq
      · cases h
    · obtain ⟨rfl,rfl⟩:=qJ h;simp [RO.quiet] at hq
  case convert s d x =>
    split at h
    · obtain ⟨rfl,rfl⟩:=qJ h;simp [RO.quiet] at hq
    · obtain ⟨rfl,rfl⟩:=qJ h;simp [RO.quiet] at hq
    · split at h
      · obtain ⟨rfl,rfl⟩:=qJ h;simp [RO.quiet] at hq
      · cases h
    · rename_i e h1 h2
      split at h
      · rename_i he
        obtain ⟨rfl,rfl⟩:=qJ h
        intro w hw
        subst hw
        obtain ⟨z,hv,hx⟩:=Pe hx
        have h8:P.underlying e=some (.int .u8):=he
        let q:=Question.appendCap z.size 0 e
        let nc:=q.cut (w.tape w.drawn q)
        have hnc:z.size≤nc:=by simp only [nc,q,Question.cut];omega
        have hcap:(choose q).run P w=.ok nc { w with drawn:=w.drawn+1 }:=by simp [q,nc,Question.forced]
        have hK:=hx nc w.heap.size hnc (kj w)
        have hcells:(z.data.map λb=>Value.int .u8 b.toNat)++Array.replicate (nc - z.size) (Value.int .u8 0)=((z.data.toList.map λ(x:UInt8)=>Value.int .u8 x.toNat)++List.replicate (nc - z.size) (Value.int .u8 0)).toArray:=by
          apply Array.ext';simp
        have hsz:(((z.data.toList.map λ(x:UInt8)=>Value.int .u8 x.toNat)++List.replicate (nc - z.size) (Value.int .u8 0)).toArray).size=nc:=by
          have:z.data.toList.length=z.size:=rfl
          simp only [List.size_toArray,List.length_append,List.length_map,List.length_replicate,this];omega
        generalize hrow:((z.data.toList.map λ(x:UInt8)=>Value.int .u8 x.toNat)++List.replicate (nc - z.size) (Value.int .u8 0)).toArray=row at *
        let w1:World:={ w with drawn:=w.drawn+1,heap:=w.heap.push (.cells row e) }
        have hsh:w1.shape? w.heap.size=some (e,nc):=by
          have hp:w1.heap[w.heap.size]?=some (.cells row e):=Array.getElem?_push_size
          unfold World.shape?
          rw [hp]
          show some (e,row.size)=_
          rw [hsz]
        have hrun:(execOp ρ { dst:=dst,op:=Op.convert s d x,type:=type,pos:=pos,after:=after,guard:=guard }).run P w=.ok (.value (.slice (some ⟨w.heap.size,0,none⟩) z.size nc)) (w1.freeze ⟨w.heap.size,nc,none⟩ 1):=by
          simp only [execOp,hv,convert,Sem.run_bind,qk h1,qk h2,Result.andThen_ok,qk h8,Conv.stringToBytes]
          rw [show (choose (.appendCap z.size 0 e)).run P w=_ from hcap]
          simp only [Result.andThen_ok,newRow,Sem.run_bind,run_newObj,Sem.run_pure,hcells,markStringish,run_shape]
          rw [show ({ w with drawn:=w.drawn+1,heap:=w.heap.push (.cells row e) }:World).shape? w.heap.size=some (e,nc) from hsh]
          simp only [run_freeze,Result.andThen_ok]
          rfl
        rw [hrun]
        have hfr:qO (w1.freeze ⟨w.heap.size,nc,none⟩ 1)=(qO w).set w.heap.size (.cells row e (nc,nc+1)):=by
          funext b
          show (if (1:Nat)=0 then w1 else _).heap[b]?=_
          rw [if_neg (by decide)]
          simp only [qO,w1,Mem.set,Array.getElem?_modify]
          by_cases eb:b=w.heap.size
          · subst eb
            simp only [if_true,Array.getElem?_push_size,Option.map_some]
            rfl
          · have:w.heap.size≠b:=λh=>eb h.symm
            simp only [eb,this,if_false,Array.getElem?_push]
        refine ⟨⟨rfl,rfl,by simp [World.freeze,w1],rfl,Nat.le_succ _⟩,?_⟩
        rw [hfr];exact hK
      · cases h
    · rename_i e0 e h1 h2
      split at h
      · rename_i he
        obtain ⟨rfl,rfl⟩:=qJ h
        simp only [Bool.and_eq_true,beq_iff_eq] at he
        obtain ⟨hsd,he⟩:=he
        subst hsd
        have h8:=qkC he
        intro w hw
        subst hw
        obtain ⟨a,n,c,hv,hx⟩:=cY hx
        cases a with
        | none=>exact hx.elim
        | some a =>
          obtain ⟨arr,t,fr,hm,hfr,hK⟩:=hx
          have hm':w.heap[a.block]?=some (.cells arr t fr):=hm
          have hsh:w.shape? a.block=some (t,arr.size):=by unfold World.shape?;rw [hm']
          have hrun:(execOp ρ { dst:=dst,op:=Op.convert s s x,type:=type,pos:=pos,after:=after,guard:=guard }).run P w=.ok (.value (.slice (some a) n c)) (w.freeze ⟨a.block,arr.size,none⟩ 1):=by
            simp [execOp,hv,convert,qk h2,qk h8,markStringish,hsh]
          rw [hrun]
          have hfz:qO (w.freeze ⟨a.block,arr.size,none⟩ 1)=(qO w).set a.block (.cells arr t (arr.size,arr.size+1)):=by
            funext b
            show (if (1:Nat)=0 then w else _).heap[b]?=_
            rw [if_neg (by decide)]
            simp only [qO,Mem.set,Array.getElem?_modify]
            by_cases eb:b=a.block
            · subst eb
              simp only [if_true,hm',Option.map_some]
              rcases hfr with rfl | rfl
              · simp
              · simp
            · have:a.block≠b:=λh=>eb h.symm
              simp only [eb,this,if_false]
          refine ⟨⟨rfl,rfl,by simp [World.freeze],rfl,Nat.le_refl _⟩,?_⟩
          rw [hfz];exact hK
      · cases h
    · cases h
  case field t x f =>
    split at h
    · obtain ⟨fl,hf,h⟩:=Option.bind_eq_some_iff.1 h
      split at h
      · obtain ⟨rfl,rfl⟩:=qJ h;simp [RO.quiet] at hq
      · split at h
        · obtain ⟨i,hi,h⟩:=Option.map_eq_some_iff.1 h
          obtain ⟨rfl,rfl⟩:=Prod.mk.injEq ..▸h;simp [RO.quiet] at hq
        · cases h
    · cases h
  case extract x i=>obtain ⟨rfl,rfl⟩:=qJ h;simp [RO.quiet] at hq
  case makeSlice t l c =>
    split at h
    · rename_i el hu
      obtain ⟨i,hi,h⟩:=Option.bind_eq_some_iff.1 h
      obtain ⟨z,hz,h⟩:=Option.bind_eq_some_iff.1 h
      split at h
      · rename_i hsz
        obtain ⟨rfl,rfl⟩:=qJ h
        intro w hw
        subst hw
        obtain ⟨n,hl,hx⟩:=IU hx
        obtain ⟨c',hc,h0,h1,h2,h3,hk⟩:=IU hx
        have:=hk w.heap.size (kj w)
        have wn:IntKind.i64.wrap n=n:=wrap_i64 (by omega) (by omega)
        have wc:IntKind.i64.wrap c'=c':=wrap_i64 (by omega) (by omega)
        have hr:(execOp ρ { dst:=dst,op:=Op.makeSlice t l c,type:=type,pos:=pos,after:=after,guard:=guard }).run P w =
            .ok (.value (.slice (some ⟨w.heap.size,0,none⟩) n.toNat c'.toNat)) { w with heap:=w.heap.push (.cells (List.replicate c'.toNat z.cells.toList).flatten.toArray el) }:=by
          have e1:¬ (c' < 0):=by omega
          have e2:¬ (281474976710656 < (i.bytes:Int)*c'):=by omega
          have e3:¬ (n < 0):=by omega
          have e4:¬ (c' < n):=by omega
          have e5:(zeroValue el).run P w=.ok z w:=xV hi hz
          have e6:=cu z.cells c'.toNat (by omega)
          by_cases hc0:c'=0
          · subst hc0
            simp [execOp,Instr.makeSlice,qk hu,hl,hc,asInt,asIntOf,zX hi,wn,wc,e3,e4,newRow,qo hi,Array.range]
            congr 2
            exact Array.eq_empty_of_size_eq_zero (by simp [wc])
          · have e7:c'.toNat≠0:=by omega
            have e8:i.size≠0:=by omega
            have e9:c'.toNat*i.size≠0:=Nat.mul_ne_zero e7 e8
            rw [hsz.1] at e6
            simp [execOp,Instr.makeSlice,qk hu,hl,hc,asInt,asIntOf,zX hi,wn,wc,e1,e2,e3,e4,newRow,qo hi,e5,if_neg e9,hsz.1]
            congr 2
        rw [hr]
        exact ⟨gK _ _ _,by rw [yk];exact this⟩
      · cases h
    · cases h
  case build t parts =>
    unfold nF at h
    obtain ⟨z,hz,h⟩:=Option.bind_eq_some_iff.1 h
    split at h
    · split at h
      · obtain ⟨ps,hps,h⟩:=Option.map_eq_some_iff.1 h
        obtain ⟨rfl,rfl⟩:=Prod.mk.injEq ..▸h;simp [RO.quiet] at hq
      · cases h
    · obtain ⟨ps,hps,h⟩:=Option.map_eq_some_iff.1 h
      obtain ⟨rfl,rfl⟩:=Prod.mk.injEq ..▸h;simp [RO.quiet] at hq
    · cases h
  case buildSlice t len parts =>
    unfold aF at h
    split at h
    case h_2=>cases h
    rename_i e hu
    obtain ⟨i,hi,h⟩:=Option.bind_eq_some_iff.1 h
    obtain ⟨z,hz,h⟩:=Option.bind_eq_some_iff.1 h
    split at h
    case isFalse=>cases h
    rename_i hsz
    obtain ⟨rfl,rfl⟩:=qJ h
    intro w hw
    subst hw
    obtain ⟨l,hl,hk⟩:=hx
    have:=hk w.heap.size (kj w)
    have hcells:(Array.range (len*i.size)).map (λj=>z.cells[j % z.cells.size]!)=(List.replicate len z.cells.toList).flatten.toArray:=by
      rw [← hsz.1];exact cu z.cells len (by omega)
    have hfill:=oO (λj=>some (j*i.size,i.size)) (parts.toList.map λ(j,x)=>(j,ρ x)) (parts.toList.map λp=>(p.1*i.size,i.size)) (List.replicate len z.cells.toList).flatten.toArray l
      (by simp [List.map_map]) (by rw [List.map_map];rw [List.map_map] at hl;exact hl)
    have hz':=xV (P:=P) (w:=w) hi hz
    have hr:(execOp ρ { dst:=dst,op:=Op.buildSlice t len parts,type:=type,pos:=pos,after:=after,guard:=guard }).run P w =
        .ok (.value (.slice (some ⟨w.heap.size,0,none⟩) len len)) { w with heap:=w.heap.push (.cells l.toArray e) }:=by
      obtain ⟨parts⟩:=parts
      simp only at hfill
      have h16:¬ (16777216 < len*i.size):=by omega
      by_cases hz0:len*i.size=0
      · have hl0:len=0:=by
          rcases Nat.mul_eq_zero.1 hz0 with h | h
          · exact h
          · omega
        subst hl0
        have:(List.replicate 0 z.cells.toList).flatten.toArray=(#[]:Array Value):=by simp
        rw [this] at hfill
        have h0r:Array.range 0=#[]:=rfl
        simp only [execOp,Instr.buildSlice,Sem.run_bind,qk hu,Result.andThen_ok,qo hi,Nat.zero_mul,if_true,Sem.run_pure,h0r,List.map_toArray,List.map_nil,hfill,newRow]
        rfl
      · simp only [execOp,Instr.buildSlice,Sem.run_bind,qk hu,Result.andThen_ok,qo hi,if_neg hz0,hz',Sem.run_pure,hcells,List.map_toArray,hfill,newRow,run_newObj,Nat.reducePow,h16,if_false]
    rw [hr]
    exact ⟨gK _ _ _,by rw [yk];exact this⟩
  case slice t x lo hi mx =>
    cases mx with
    | none =>
      simp only [Option.isNone_none,if_true,nC] at h
      split at h
      · obtain ⟨i,hi,h⟩:=Option.map_eq_some_iff.1 h
        obtain ⟨rfl,rfl⟩:=Prod.mk.injEq ..▸h;simp [RO.quiet] at hq
      · obtain ⟨rfl,rfl⟩:=qJ h;simp [RO.quiet] at hq
      · split at h
        · obtain ⟨i,hi,h⟩:=Option.map_eq_some_iff.1 h
          obtain ⟨rfl,rfl⟩:=Prod.mk.injEq ..▸h;simp [RO.quiet] at hq
        · cases h
      · cases h
    | some mx =>
      simp only [Option.isNone_some,Bool.false_eq_true,if_false,gV] at h
      split at h
      · obtain ⟨i,hi,h⟩:=Option.map_eq_some_iff.1 h
        obtain ⟨rfl,rfl⟩:=Prod.mk.injEq ..▸h;simp [RO.quiet] at hq
      · cases h
  case index t x i =>
    split at h
    · split at h
      · obtain ⟨j,hj,h⟩:=Option.map_eq_some_iff.1 h
        obtain ⟨rfl,rfl⟩:=Prod.mk.injEq ..▸h;simp [RO.quiet] at hq
      · split at h
        · obtain ⟨j,hj,h⟩:=Option.map_eq_some_iff.1 h
          obtain ⟨rfl,rfl⟩:=Prod.mk.injEq ..▸h;simp [RO.quiet] at hq
        · cases h
    · obtain ⟨rfl,rfl⟩:=qJ h;simp [RO.quiet] at hq
    · cases h
  case makeFunc fn first captured=>obtain ⟨rfl,rfl⟩:=qJ h;simp [RO.quiet] at hq
  case makeMap t r =>
    split at h
    · rename_i hr
      obtain ⟨rfl,rfl⟩:=qJ h
      have hr':r=none:=by simpa using hr
      subst hr'
      intro w hw
      subst hw
      simp only [List.map_nil,xs] at hx
      have:=hx w.heap.size (kj w)
      have hr:(execOp ρ { dst:=dst,op:=Op.makeMap t none,type:=type,pos:=pos,after:=after,guard:=guard }).run P w =
          .ok (.value (.map (some w.heap.size))) { w with heap:=w.heap.push (.map #[] 0) }:=by
        simp [execOp,Instr.makeMap]
      rw [hr]
      exact ⟨BA _ _,by rw [yk];exact this⟩
    · cases h
  case lookup t x i ok =>
    unfold gW at h
    obtain ⟨z,hz,h⟩:=Option.bind_eq_some_iff.1 h
    obtain ⟨z',hz',h⟩:=Option.map_eq_some_iff.1 h
    obtain ⟨rfl,rfl⟩:=Prod.mk.injEq ..▸h;simp [RO.quiet] at hq
  case mapUpdate t a k x =>
    refine λw hw=>Mc h hx (λr=>?_) w hw
    simp [execOp]
  case insert t a k x =>
    refine λw hw=>Mc h hx (λr=>?_) w hw
    simp [execOp]
  case range t x =>
    split at h
    · rename_i k e hu
      obtain ⟨rfl,rfl⟩:=qJ h
      intro w hw
      subst hw
      obtain ⟨r,hv,hx⟩:=CG hx
      cases r with
      | none =>
        have:=hx w.heap.size (kj w)
        have hr:(execOp ρ { dst:=dst,op:=Op.range t x,type:=type,pos:=pos,after:=after,guard:=guard }).run P w =
            .ok (.value (.pointer (some ⟨w.heap.size,0,none⟩))) { w with heap:=w.heap.push (.mapIter none 0 #[] 0) }:=by
          simp [execOp,Instr.range,qk hu,hv]
        rw [hr]
        exact ⟨BA _ _,by rw [yk];exact this⟩
      | some b =>
        obtain ⟨es,clock,hm,hx⟩:=hx
        have:=hx w.heap.size (kj w)
        have hr:(execOp ρ { dst:=dst,op:=Op.range t x,type:=type,pos:=pos,after:=after,guard:=guard }).run P w =
            .ok (.value (.pointer (some ⟨w.heap.size,0,none⟩))) { w with heap:=w.heap.push (.mapIter (some b) clock #[] clock) }:=by
          simp [execOp,Instr.range,qk hu,hv,run_getObj_map hm]
        rw [hr]
        exact ⟨BA _ _,by rw [yk];exact this⟩
    · cases h
  case next it isS =>
    split at h
    · cases h
    · rename_i hs
      obtain ⟨rfl,rfl⟩:=qJ h
      intro w hw
      subst hw
      obtain ⟨a,hv,hx⟩:=Ry hx
      have hs':isS=false:=by simpa using hs
      subst hs'
      exact qZA (dst:=dst) (type:=type) (pos:=pos) (after:=after) (guard:=guard) hv hx
end sound
end Go.Fw
namespace Go.Fw
inductive X where
 | qq (t:Nat) | qz (i:Nat) | const (v:Value) | glob (g:Nat) | fn (f:Nat)
 deriving Inhabited
abbrev Env:=List (Nat×Value)
def Env.get:Env→Nat→Value
 | [],_=>undef
 | (j,v)::r,i=>if i=j then v else Env.get r i
def Env.has:Env→Nat→Bool
 | [],_=>false
 | (j,_)::r,i=>i == j || Env.has r i
def X.ev(L:Nat→Value)(σ:Env):X→Value
 | .qq t=>L t
 | .qz i=>σ.get i
 | .const v=>v
 | .glob g=>.pointer (some ⟨g,0,none⟩)
 | .fn f=>.func (.func f) #[] #[]
def asB:Value→Option Bool
 | .bool b=>some b
 | _=>none
abbrev Gd:=Option (X×Bool)
inductive ET where
 | out (outs:List (Nat×X))
 | fail
 | tt
 | q (i:Nat) (ro:RO) (args:List X) (g:Gd) (k:ET)
 | x (i:Nat) (ro:RO) (args:List X) (g:Gd) (rc:List (Nat×RO×List X×Gd)) (k:ET)
 | both (a b:ET)
 deriving Inhabited
def Uk(o:Option Value)(K:Value→Prop):Prop:=∃ v,o=some v∧K v
def gP(L:Nat→Value)(σ:Env)(g:Gd)(yes no:Prop):Prop :=
 match g with
 | none=>yes
 | some (x,want)=>(asB (x.ev L σ)=some want→yes)∧(asB (x.ev L σ)≠some want→no)
def rcP(L:Nat→Value)(σ:Env)(m:Mem):List (Nat×RO×List X×Gd)→Prop
 | []=>True
 | (i,ro,args,g)::r=>gP L σ g (rd ro (args.map (X.ev L σ)) m=some (σ.get i)) True∧rcP L σ m r
def etP(P:Program)(L:Nat→Value):ET→Env→Mem→(Env→Mem→Prop)→Prop
 | .out outs,σ,m,K=>K (outs.map λp=>(p.1,p.2.ev L σ)) m
 | .fail,_,_,_=>False
 | .tt,_,_,_=>True
 | .q i ro args g k,σ,m,K=>gP L σ g (Uk (rd ro (args.map (X.ev L σ)) m) λv=>etP P L k ((i,v)::σ) m K) (etP P L k ((i,undef)::σ) m K)
 | .x i ro args g rc k,σ,m,K =>
  gP L σ g (xs P ro (args.map (X.ev L σ)) m λv m'=>rcP L ((i,v)::σ) m' rc∧etP P L k ((i,v)::σ) m' K) (etP P L k ((i,undef)::σ) m K)
 | .both a b,σ,m,K=>etP P L a σ m K∧etP P L b σ m K
def jY(ops:Array Oper)(k:Nat):Option Nat:=(ops[k]?).bind (·.dst)
def xg(ops:Array Oper)(t:Nat):Nat→Option Nat
 | 0=>none
 | k+1=>if jY ops k=some t then some k else xg ops t k
def Kv(ops:Array Oper)(j:Nat):Option Operand :=
 match ops[j]? with
 | some o=>if o.guard.isNone then (match o.op with | .move x | .assign x=>some x | _=>none) else none
 | none=>none
def nx(ops:Array Oper):Nat→Nat→X
 | 0,j=>.qz j
 | f+1,j =>
  match Kv ops j with
  | some (.tmp t)=>(match xg ops t j with | none=>.qq t | some k=>nx ops f k)
  | some (.const v)=>.const v
  | some (.global g)=>.glob g
  | some (.func g)=>.fn g
  | none=>.qz j
def src(ops:Array Oper)(i:Nat):Operand→X
 | .tmp t=>(match xg ops t i with | none=>.qq t | some k=>nx ops ops.size k)
 | .const v=>.const v
 | .global g=>.glob g
 | .func g=>.fn g
structure Nd where
 ro:RO
 args:List X
 g:Gd
 mv:Bool
 deriving Inhabited
def RM(ops:Array Oper)(i:Nat)(o:Oper):Option Gd :=
 match o.guard with
 | none=>some none
 | some (j,want)=>(jY ops j).map λd=>some (src ops i (.tmp d),want)
def okX(l:List Nat):Operand→Bool
 | .tmp t=>l.contains t
 | _=>true
def qqK(P:Program)(ops:Array Oper)(i:Nat):Option Nd :=
 (ops[i]?).bind λo=>(qz P o).bind λr=>if r.2.all (okX (o.looksAt ops)) then (RM ops i o).map λg=>⟨r.1,r.2.map (src ops i),g,(Kv ops i).isSome⟩ else none
def lE(acc:List Nat)(o:Oper):Nat:=o.after.toList.foldl (λs e=>if Region.binds .any e then s ||| 2 ^ e.on ||| acc.getD e.on 0 else s) 0
def tps:List Oper→List Nat→List Nat
 | [],acc=>acc
 | o::r,acc=>tps r (acc++[lE acc o])
def cG(ns tp:List Nat)(qt:List Bool)(D:Nat):Option Nat:=ns.find? λi=>!D.testBit i && qt.getD i false && ((tp.getD i 0) &&& D == tp.getD i 0)
def rA(ns tp:List Nat)(qt:List Bool)(D:Nat):List Nat:=ns.filter λi=>!D.testBit i && !qt.getD i true && ((tp.getD i 0) &&& D == tp.getD i 0)
def UK:List ET→ET
 | []=>.tt
 | [a]=>a
 | a::r=>.both a (UK r)
def qvt(ns:List Nat)(nd:List Nd)(tp:List Nat)(D i:Nat):List (Nat×RO×List X×Gd) :=
 ns.filterMap λj=>(nd[j]?).bind λd=>if D.testBit j && d.ro.quiet && d.ro.reads && !(tp.getD i 0).testBit j then some (j,d.ro,d.args,d.g) else none
def mkT(ns:List Nat)(nd:List Nd)(tp:List Nat)(qt:List Bool)(outs:List (Nat×X)):Nat→Nat→ET
 | 0,_=>.fail
 | f+1,D =>
  match cG ns tp qt D with
  | some i =>
   match nd[i]? with
   | some d=>if d.mv then mkT ns nd tp qt outs f (D ||| 2 ^ i) else .q i d.ro d.args d.g (mkT ns nd tp qt outs f (D ||| 2 ^ i))
   | none=>.fail
  | none =>
   match rA ns tp qt D with
   | []=>if ns.all (λi=>D.testBit i) then .out outs else .fail
   | r=>UK (r.map λi=>match nd[i]? with | some d=>.x i d.ro d.args d.g (qvt ns nd tp D i) (mkT ns nd tp qt outs f (D ||| 2 ^ i)) | none=>.fail)
def mkS(outs:List (Nat×X)):List Nd→Nat→ET
 | [],_=>.out outs
 | d::r,i=>if d.mv then mkS outs r (i+1) else if d.ro.quiet then .q i d.ro d.args d.g (mkS outs r (i+1)) else .x i d.ro d.args d.g [] (mkS outs r (i+1))
end Go.Fw
namespace Go.Fw
section sim
variable {P:Program} {ops:Array Oper} {base:Nat→Value}
def opv(ops:Array Oper)(base:Nat→Value)(vals:Nat→Value)(i:Nat):Operand→Value
 | .tmp t=>(match xg ops t i with | none=>base t | some j=>vals j)
 | .const v=>v
 | .global g=>.pointer (some ⟨g,0,none⟩)
 | .func f=>.func (.func f) #[] #[]
def vE(ops:Array Oper)(base:Nat→Value)(vals:Nat→Value)(i:Nat)(o:Oper):Bool :=
 match o.guard with
 | none=>true
 | some (j,want)=>match jY ops j with
  | some d=>asB (opv ops base vals i (.tmp d)) == some want
  | none=>false
theorem Wi{t:Nat}:∀ {i j:Nat},xg ops t i=some j→j < i∧jY ops j=some t
 | 0,_,h=>by simp [xg] at h
 | k+1,j,h=>by
  simp only [xg] at h
  split at h
  ·rename_i e;simp only [Option.some.injEq] at h;subst h;exact ⟨Nat.lt_succ_self _,e⟩
  ·have:=Wi h;exact ⟨by omega,this.2⟩
structure yy(P:Program)(ops:Array Oper)(nd:List Nd)(tp:List Nat)(qt:List Bool)(N:Nat):Prop where
 ap:∀ i j oi oj,i < j→ops[i]?=some oi→ops[j]?=some oj→(tp.getD j 0).testBit i=true∨oi.apart ops oj=true
 hnd:∀ i,i < ops.size→∃ d,nd[i]?=some d∧qqK P ops i=some d
 hqt:∀ i d,i < ops.size→nd[i]?=some d→qt[i]?=some d.ro.quiet
 hdst:∀ i d,jY ops i=some d→d < N
structure qQz(ops:Array Oper)(tp:List Nat):Prop where
 back:∀ i o,ops[i]?=some o→∀ e∈o.after,Region.binds .any e=true→e.on < i
 htp:∀ i o,ops[i]?=some o→∀ k,(tp.getD i 0).testBit k=true→∃ e∈o.after,Region.binds .any e=true∧(k=e.on∨(tp.getD e.on 0).testBit k=true)
variable {nd:List Nd} {tp:List Nat} {qt:List Bool} {N:Nat}
theorem CH{i j:Nat}{oi:Oper}{t:Nat}(ok:yy P ops nd tp qt N)(hlt:j < i)(hi:ops[i]?=some oi)(hj:jY ops j=some t)(ht:t∈oi.looksAt ops):(tp.getD i 0).testBit j=true:=by
 unfold jY at hj
 obtain ⟨oj,hoj,hd⟩:=Option.bind_eq_some_iff.1 hj
 rcases ok.ap j i oj oi hlt hoj hi with h | h
 ·exact h
 ·exact absurd ht ((Oper.apart_spec h).1 t hd)
theorem qqb{i k:Nat}{oi:Oper}{t:Nat}(ok:yy P ops nd tp qt N)(hlt:i < k)(hi:ops[i]?=some oi)(hk:jY ops k=some t)(ht:t∈oi.looksAt ops):(tp.getD k 0).testBit i=true:=by
 unfold jY at hk
 obtain ⟨ok',hok,hd⟩:=Option.bind_eq_some_iff.1 hk
 rcases ok.ap i k oi ok' hlt hi hok with h | h
 ·exact h
 ·exact absurd ht ((Oper.apart_spec h).2.2 t hd)
theorem qJW{i k:Nat}{t:Nat}(ok:yy P ops nd tp qt N)(hlt:i < k)(hi:jY ops i=some t)(hk:jY ops k=some t):(tp.getD k 0).testBit i=true:=by
 unfold jY at hi hk
 obtain ⟨oi,hoi,hdi⟩:=Option.bind_eq_some_iff.1 hi
 obtain ⟨ok',hok,hd⟩:=Option.bind_eq_some_iff.1 hk
 rcases ok.ap i k oi ok' hlt hoi hok with h | h
 ·exact h
 ·exact absurd hd ((Oper.apart_spec h).2.1 t hdi)
structure Can(ops:Array Oper)(base:Nat→Value)(tp:List Nat)(D:Nat)(σ:Env)(vals:Nat→Value):Prop where
 closed:∀ i,D.testBit i=true→∀ k,(tp.getD i 0).testBit k=true→D.testBit k=true
 sg:∀ i,D.testBit i=true→Kv ops i=none→σ.get i=vals i
 mv:∀ i x,D.testBit i=true→Kv ops i=some x→vals i=opv ops base vals i x
theorem cn{j:Nat}{x:Operand}(h:Kv ops j=some x):∃ o,ops[j]?=some o∧∀ t,x=.tmp t→t∈o.looksAt ops:=by
 unfold Kv at h
 split at h
 ·rename_i o ho
  refine ⟨o,ho,λt hx=>?_⟩
  split at h
  ·split at h
   ·rename_i y hop;simp only [Option.some.injEq] at h;subst h;subst hx;simp [Oper.looksAt,hop,Op.operands]
   ·rename_i y hop;simp only [Option.some.injEq] at h;subst h;subst hx;simp [Oper.looksAt,hop,Op.operands]
   ·cases h
  ·cases h
 ·cases h
theorem qyL(ok:yy P ops nd tp qt N){D:Nat}{σ:Env}{vals:Nat→Value}(c:Can ops base tp D σ vals) :
  ∀ f j,j < f→D.testBit j=true→(nx ops f j).ev base σ=vals j
 | 0,j,h,_=>absurd h (by omega)
 | f+1,j,h,hj=>by
  simp only [nx]
  cases hm:Kv ops j with
  | none=>simpa [X.ev] using c.sg j hj hm
  | some x =>
   have hv:=c.mv j x hj hm
   obtain ⟨o,ho,hl⟩:=cn hm
   cases x with
   | tmp t =>
    simp only
    cases hw:xg ops t j with
    | none=>simp only [X.ev];rw [hv];simp [opv,hw]
    | some k =>
     obtain ⟨hk,hd⟩:=Wi hw
     have hb:=CH ok hk ho hd (hl t rfl)
     rw [hv]
     simp only [opv,hw]
     exact qyL ok c f k (by omega) (c.closed j hj k hb)
   | const v=>rw [hv];rfl
   | global g=>rw [hv];rfl
   | func g=>rw [hv];rfl
theorem HF(ok:yy P ops nd tp qt N){D:Nat}{σ:Env}{vals:Nat→Value}(c:Can ops base tp D σ vals){i:Nat}(hi:i≤ops.size){x:Operand}(hx:∀ t j,x=.tmp t→xg ops t i=some j→D.testBit j=true):(src ops i x).ev base σ=opv ops base vals i x:=by
 cases x with
 | tmp t =>
  simp only [src,opv]
  cases hw:xg ops t i with
  | none=>rfl
  | some j=>exact qyL ok c _ j (by have:=(Wi hw).1;omega) (hx t j rfl hw)
 | const v=>rfl
 | global g=>rfl
 | func g=>rfl
theorem ga{vals vals':Nat→Value}{i:Nat}{x:Operand}(h:∀ t j,x=.tmp t→xg ops t i=some j→vals j=vals' j):opv ops base vals i x=opv ops base vals' i x:=by
 cases x with
 | tmp t =>
  simp only [opv]
  cases hw:xg ops t i with
  | none=>rfl
  | some j=>exact h t j rfl hw
 | _=>rfl
theorem Wz(ok:yy P ops nd tp qt N){D:Nat}{i:Nat}{o:Oper}(ho:ops[i]?=some o)(hp:∀ k,(tp.getD i 0).testBit k=true→D.testBit k=true){t j:Nat}(ht:t∈o.looksAt ops)(hw:xg ops t i=some j):D.testBit j=true:=by
 obtain ⟨hlt,hd⟩:=Wi hw
 exact hp _ (CH ok hlt ho hd ht)
def upd(vals:Nat→Value)(i:Nat)(v:Value):Nat→Value:=λk=>if k=i then v else vals k
theorem XO(vals:Nat→Value)(i:Nat)(v:Value):upd vals i v i=v:=by simp [upd]
theorem aC{vals:Nat→Value}{i k:Nat}(v:Value)(h:k≠i):upd vals i v k=vals k:=by simp [upd,h]
def QF(P:Program)(ops:Array Oper)(base:Nat→Value)(vals:Nat→Value)(m:Mem)(i:Nat):Prop :=
 ∀ o ro xl,ops[i]?=some o→qz P o=some (ro,xl)→ro.quiet=true ∧
  (vE ops base vals i o=true→rd ro (xl.map (opv ops base vals i)) m=some (vals i))∧(vE ops base vals i o=false→vals i=undef)
theorem WY{i:Nat}{d:Nd}(h:qqK P ops i=some d):∃ o ro xl g,ops[i]?=some o∧qz P o=some (ro,xl)∧xl.all (okX (o.looksAt ops))=true∧RM ops i o=some g ∧
  d=⟨ro,xl.map (src ops i),g,(Kv ops i).isSome⟩:=by
 unfold qqK at h
 obtain ⟨o,ho,h⟩:=Option.bind_eq_some_iff.1 h
 obtain ⟨⟨ro,xl⟩,hr,h⟩:=Option.bind_eq_some_iff.1 h
 split at h
 ·rename_i hk
  obtain ⟨g,hg,h⟩:=Option.map_eq_some_iff.1 h
  exact ⟨o,ro,xl,g,ho,hr,hk,hg,h.symm⟩
 ·cases h
theorem Ia{l:List Nat}{xl:List Operand}(h:xl.all (okX l)=true){t:Nat}(ht:.tmp t∈xl):t∈l:=by
 have:=List.all_eq_true.1 h _ ht
 simpa [okX] using this
theorem YM{o:Oper}{j:Nat}{want:Bool}{d:Nat}(hg:o.guard=some (j,want))(hd:jY ops j=some d):d∈o.looksAt ops:=by
 unfold Oper.looksAt
 refine List.mem_append_right _ ?_
 unfold jY at hd
 simp [hg,hd]
theorem oL(ok:yy P ops nd tp qt N){D:Nat}{σ:Env}{vals:Nat→Value}(c:Can ops base tp D σ vals){i:Nat}{o:Oper}{g:Gd}(hi:i < ops.size)(ho:ops[i]?=some o)(hp:∀ k,(tp.getD i 0).testBit k=true→D.testBit k=true)(hg:RM ops i o=some g){yes no:Prop}(h:gP base σ g yes no) :
  (vE ops base vals i o=true→yes)∧(vE ops base vals i o=false→no):=by
 unfold RM at hg
 unfold vE
 cases hgu:o.guard with
 | none=>simp only [hgu,Option.some.injEq] at hg;subst hg;exact ⟨λ_=>h,λh0=>by cases h0⟩
 | some jw =>
  obtain ⟨j,want⟩:=jw
  simp only [hgu] at hg
  obtain ⟨d,hd,rfl⟩:=Option.map_eq_some_iff.1 hg
  simp only [hd]
  have e:=HF (base:=base) ok c (Nat.le_of_lt hi) (x:=.tmp d) (λt k ht hw=>by
   cases ht;exact Wz ok ho hp (YM hgu hd) hw)
  simp only [gP] at h
  rw [e] at h
  constructor
  ·intro hb;exact h.1 (by simpa using hb)
  ·intro hb;exact h.2 (by simpa using hb)
theorem re(ok:yy P ops nd tp qt N){D:Nat}{σ:Env}{vals:Nat→Value}(c:Can ops base tp D σ vals){i:Nat}{o:Oper}{xl:List Operand}(hi:i < ops.size)(ho:ops[i]?=some o)(hp:∀ k,(tp.getD i 0).testBit k=true→D.testBit k=true)(hk:xl.all (okX (o.looksAt ops))=true) :
  (xl.map (src ops i)).map (X.ev base σ)=xl.map (opv ops base vals i):=by
 rw [List.map_map]
 refine List.map_congr_left λx hx=>?_
 exact HF (base:=base) ok c (Nat.le_of_lt hi) (λt j ht hw=>by subst ht;exact Wz ok ho hp (Ia hk hx) hw)
theorem qL(D i k:Nat):(D ||| 2 ^ i).testBit k=(D.testBit k || decide (k=i)):=by
 rw [Nat.testBit_or,Nat.testBit_two_pow]
 congr 1
 by_cases h:i=k<;>simp [h,eq_comm]
theorem qyo{a D:Nat}(h:(a &&& D == a)=true):∀ k,a.testBit k=true→D.testBit k=true:=by
 intro k hk
 have h':a &&& D=a:=by simpa using h
 rw [← h',Nat.testBit_and] at hk
 simpa using (Bool.and_eq_true _ _▸hk).2
theorem Can.add(ok:yy P ops nd tp qt N){D:Nat}{σ:Env}{vals:Nat→Value}(c:Can ops base tp D σ vals){i:Nat}(hi:i < ops.size)(hD:D.testBit i=false)(hp:∀ k,(tp.getD i 0).testBit k=true→D.testBit k=true)(v:Value)(σ':Env)(hm:Kv ops i=none→σ'=(i,v)::σ)(hm':∀ x,Kv ops i=some x→σ'=σ∧v=opv ops base vals i x) :
  Can ops base tp (D ||| 2 ^ i) σ' (upd vals i v):=by
 have hne:∀ k,D.testBit k=true→k≠i:=λk hk e=>by subst e;rw [hD] at hk;cases hk
 constructor
 ·intro k hk j hj
  rw [qL] at hk ⊢
  by_cases e:k=i
  ·subst e;simp [hp j hj]
  ·simp only [e,decide_false,Bool.or_false] at hk
   simp [c.closed k hk j hj]
 ·intro k hk hmk
  rw [qL] at hk
  by_cases e:k=i
  ·subst e;rw [hm hmk,XO];simp [Env.get]
  ·simp only [e,decide_false,Bool.or_false] at hk
   rw [aC v e]
   cases hmi:Kv ops i with
   | none=>rw [hm hmi];simp only [Env.get,if_neg e];exact c.sg k hk hmk
   | some x=>rw [(hm' x hmi).1];exact c.sg k hk hmk
 ·intro k x hk hmk
  rw [qL] at hk
  obtain ⟨o,ho,hl⟩:=cn hmk
  by_cases e:k=i
  ·subst e
   rw [XO,(hm' x hmk).2]
   exact ga λt j ht hw=>by
    have:=hne j (Wz ok ho hp (hl t ht) hw)
    rw [aC _ this]
  ·simp only [e,decide_false,Bool.or_false] at hk
   rw [aC v e,c.mv k x hk hmk]
   exact ga λt j ht hw=>by
    have:=hne j (Wz ok ho (c.closed k hk) (hl t ht) hw)
    rw [aC _ this]
theorem QF.Nn(ok:yy P ops nd tp qt N){D:Nat}{vals vals':Nat→Value}{m:Mem}{i:Nat}{d:Nd}(hi:qqK P ops i=some d)(hiD:D.testBit i=true)(hp:∀ k,(tp.getD i 0).testBit k=true→D.testBit k=true)(hv:∀ k,D.testBit k=true→vals' k=vals k)(h:QF P ops base vals m i):QF P ops base vals' m i:=by
 obtain ⟨o,ro,xl,g,ho,hr,hk,hg,rfl⟩:=WY hi
 intro o' ro' xl' ho' hr'
 rw [ho] at ho';cases ho'
 rw [hr] at hr';cases hr'
 have ho'':=h o ro xl ho hr
 have hopv:∀ t,t∈o.looksAt ops→opv ops base vals' i (.tmp t)=opv ops base vals i (.tmp t):=λt ht =>
  ga λt' j e hw=>by cases e;exact hv j (Wz ok ho hp ht hw)
 have hw:vE ops base vals' i o=vE ops base vals i o:=by
  unfold vE
  cases hgu:o.guard with
  | none=>rfl
  | some jw =>
   obtain ⟨j,want⟩:=jw
   simp only
   cases hd:jY ops j with
   | none=>rfl
   | some d=>simp only;rw [hopv d (YM hgu hd)]
 have hx:xl.map (opv ops base vals' i)=xl.map (opv ops base vals i):=List.map_congr_left λx hx=>by
  cases x with
  | tmp t=>exact hopv t (Ia hk hx)
  | _=>rfl
 refine ⟨ho''.1,λh1=>?_,λh1=>?_⟩
 ·rw [hx,hv i hiD];exact ho''.2.1 (hw▸h1)
 ·rw [hv i hiD];exact ho''.2.2 (hw▸h1)
end sim
end Go.Fw
namespace Go.Fw
section sim
variable {P:Program} {ops:Array Oper} {base:Nat→Value} {nd:List Nd} {tp:List Nat} {qt:List Bool} {N:Nat} {outs:List (Nat×X)} {K:Env→Mem→Prop}
theorem NG{ns:List Nat}{D i:Nat}(h:cG ns tp qt D=some i):i∈ns∧D.testBit i=false∧qt.getD i false=true∧∀ k,(tp.getD i 0).testBit k=true→D.testBit k=true:=by
 unfold cG at h
 have h1:=List.find?_some h
 simp only [Bool.and_eq_true,Bool.not_eq_true'] at h1
 exact ⟨List.mem_of_find?_eq_some h,h1.1.1,h1.1.2,qyo h1.2⟩
theorem NH{ns:List Nat}{D:Nat}(h:cG ns tp qt D=none){i:Nat}(hi:i∈ns)(hq:qt.getD i false=true)(hp:∀ k,(tp.getD i 0).testBit k=true→D.testBit k=true):D.testBit i=true:=by
 unfold cG at h
 have h1:=List.find?_eq_none.1 h i hi
 have hand:((tp.getD i 0) &&& D == tp.getD i 0)=true:=by
  simp only [beq_iff_eq]
  apply Nat.eq_of_testBit_eq
  intro k
  rw [Nat.testBit_and]
  cases hb:(tp.getD i 0).testBit k
  ·rfl
  ·simp [hp k hb]
 cases hD:D.testBit i
 ·rw [hD,hand,hq] at h1
  exact absurd rfl h1
 ·rfl
theorem CF{i:Nat}{x:Operand}{o:Oper}(hm:Kv ops i=some x)(ho:ops[i]?=some o):o.guard=none∧(o.op=.move x∨o.op=.assign x):=by
 unfold Kv at hm
 rw [ho] at hm
 simp only at hm
 split at hm
 ·rename_i hg
  refine ⟨by simpa using hg,?_⟩
  split at hm
  ·rename_i y hop;simp only [Option.some.injEq] at hm;subst hm;exact .inl hop
  ·rename_i y hop;simp only [Option.some.injEq] at hm;subst hm;exact .inr hop
  ·cases hm
 ·cases hm
theorem QF.qyH{vals:Nat→Value}{m:Mem}{i:Nat}{x:Operand}(hm:Kv ops i=some x)(hv:vals i=opv ops base vals i x):QF P ops base vals m i:=by
 intro o ro xl ho hr
 obtain ⟨hg,hop⟩:=CF hm ho
 have hr':ro=.mv∧xl=[x]:=by
  obtain ⟨dst,op,type,pos,after,guard⟩:=o
  rcases hop with rfl | rfl<;>(simp only [qz] at hr;obtain ⟨rfl,rfl⟩:=qJ hr;exact ⟨rfl,rfl⟩)
 obtain ⟨rfl,rfl⟩:=hr'
 refine ⟨rfl,λ_=>?_,λh=>?_⟩
 ·simp only [List.map_cons,List.map_nil,rd,rdp,RO.reads]
  rw [← hv]
 ·simp [vE,hg] at h
theorem Bz(ok:yy P ops nd tp qt N){D:Nat}{vals:Nat→Value}{i:Nat}{o:Oper}(ho:ops[i]?=some o)(hD:D.testBit i=false)(hp:∀ k,(tp.getD i 0).testBit k=true→D.testBit k=true)(v:Value){x:Operand}(hx:∀ t,x=.tmp t→t∈o.looksAt ops) :
  opv ops base (upd vals i v) i x=opv ops base vals i x :=
 ga λt j e hw=>by
  have:=Wz ok ho hp (hx t e) hw
  exact aC _ (λe=>by subst e;rw [hD] at this;cases this)
theorem Ma(ok:yy P ops nd tp qt N){D:Nat}{vals:Nat→Value}{i:Nat}{o:Oper}(ho:ops[i]?=some o)(hD:D.testBit i=false)(hp:∀ k,(tp.getD i 0).testBit k=true→D.testBit k=true)(v:Value):vE ops base (upd vals i v) i o=vE ops base vals i o:=by
 unfold vE
 cases hgu:o.guard with
 | none=>rfl
 | some jw =>
  obtain ⟨j,want⟩:=jw
  simp only
  cases hd:jY ops j with
  | none=>rfl
  | some d =>
   simp only
   rw [Bz (base:=base) ok ho hD hp v (x:=.tmp d) (λt e=>by cases e;exact YM hgu hd)]
theorem advance(ok:yy P ops nd tp qt N):∀ (f D:Nat) (σ:Env) (vals:Nat→Value) (m:Mem),Can ops base tp D σ vals →
  etP P base (mkT (List.range ops.size) nd tp qt outs f D) σ m K →
  ∃ f' D' σ' vals',Can ops base tp D' σ' vals'∧cG (List.range ops.size) tp qt D'=none∧etP P base (mkT (List.range ops.size) nd tp qt outs (f'+1) D') σ' m K ∧
   (∀ i,D.testBit i=true→D'.testBit i=true∧vals' i=vals i)∧(∀ i,D'.testBit i=true→D.testBit i=true∨QF P ops base vals' m i)
 | 0,D,σ,vals,m,_,h=>by simp [mkT,etP] at h
 | f+1,D,σ,vals,m,c,h=>by
  cases hq:cG (List.range ops.size) tp qt D with
  | none=>exact ⟨f,D,σ,vals,c,hq,h,λi hi=>⟨hi,rfl⟩,λi hi=>.inl hi⟩
  | some i =>
   obtain ⟨hin,hD,hqi,hp⟩:=NG hq
   have hi:i < ops.size:=by simpa using hin
   obtain ⟨d,hd,hnd⟩:=ok.hnd i hi
   obtain ⟨o,ro,xl,g,ho,hr,hk,hg,hde⟩:=WY hnd
   have hquiet:ro.quiet=true:=by
    have:=ok.hqt i d hi hd
    rw [List.getD_eq_getElem?_getD,this] at hqi
    rw [hde] at hqi
    simpa using hqi
   simp only [mkT,hq,hd] at h
   have step:∀ (v:Value) (σ1:Env),(Kv ops i=none→σ1=(i,v)::σ)→(∀ x,Kv ops i=some x→σ1=σ∧v=opv ops base vals i x) →
     QF P ops base (upd vals i v) m i→etP P base (mkT (List.range ops.size) nd tp qt outs f (D ||| 2 ^ i)) σ1 m K →
     ∃ f' D' σ' vals',Can ops base tp D' σ' vals'∧cG (List.range ops.size) tp qt D'=none∧etP P base (mkT (List.range ops.size) nd tp qt outs (f'+1) D') σ' m K ∧
      (∀ i,D.testBit i=true→D'.testBit i=true∧vals' i=vals i)∧(∀ i,D'.testBit i=true→D.testBit i=true∨QF P ops base vals' m i):=by
    intro v σ1 h1 h2 hqf het
    have c1:=c.add ok hi hD hp v σ1 h1 h2
    obtain ⟨f',D',σ',vals',c',hq',het',hk',hn'⟩:=advance ok f (D ||| 2 ^ i) σ1 (upd vals i v) m c1 het
    have hiD':D'.testBit i=true:=(hk' i (by rw [qL];simp)).1
    refine ⟨f',D',σ',vals',c',hq',het',λk hkD=>?_,λk hkD=>?_⟩
    ·have:=hk' k (by rw [qL];simp [hkD])
     refine ⟨this.1,this.2.trans (aC v (λe=>by subst e;rw [hD] at hkD;cases hkD))⟩
    ·rcases hn' k hkD with h' | h'
     ·rw [qL] at h'
      by_cases e:k=i
      ·subst e
       refine .inr ?_
       exact QF.Nn (D:=D ||| 2 ^ k) ok hnd (by rw [qL];simp) (λj hj=>by rw [qL];simp [hp j hj]) (λj hj=>(hk' j hj).2) hqf
      ·simp only [e,decide_false,Bool.or_false] at h'
       exact .inl h'
     ·exact .inr h'
   cases hm:Kv ops i with
   | some x =>
    have hmv:d.mv=true:=by rw [hde];simp [hm]
    simp only [hmv,if_true] at h
    obtain ⟨o',ho',hl⟩:=cn hm
    rw [ho] at ho';cases ho'
    exact step (opv ops base vals i x) σ (λe=>by rw [hm] at e;cases e) (λx' e=>by rw [hm] at e;cases e;exact ⟨rfl,rfl⟩)
     (QF.qyH hm (by rw [XO];exact (Bz (base:=base) ok ho hD hp _ hl).symm)) h
   | none =>
    have hmv:d.mv=false:=by rw [hde];simp [hm]
    simp only [hmv,Bool.false_eq_true,if_false,etP] at h
    rw [hde] at h
    simp only at h
    have hgw:=oL (base:=base) ok c hi ho hp hg h
    have hav:=re (base:=base) ok c hi ho hp hk
    cases hw:vE ops base vals i o with
    | true =>
     obtain ⟨v,hv,het⟩:=hgw.1 hw
     rw [hav] at hv
     refine step v ((i,v)::σ) (λ_=>rfl) (λx e=>by rw [hm] at e;cases e) ?_ het
     intro o' ro' xl' ho' hr'
     rw [ho] at ho';cases ho'
     rw [hr] at hr';cases hr'
     refine ⟨hquiet,λ_=>?_,λh0=>?_⟩
     ·rw [XO,← hv]
      congr 1
      exact List.map_congr_left λx hx=>Bz (base:=base) ok ho hD hp v (λt e=>by subst e;exact Ia hk hx)
     ·rw [Ma (base:=base) ok ho hD hp v,hw] at h0;cases h0
    | false =>
     have het:=hgw.2 hw
     refine step undef ((i,undef)::σ) (λ_=>rfl) (λx e=>by rw [hm] at e;cases e) ?_ het
     intro o' ro' xl' ho' hr'
     rw [ho] at ho';cases ho'
     rw [hr] at hr';cases hr'
     refine ⟨hquiet,λh0=>?_,λ_=>XO _ _ _⟩
     rw [Ma (base:=base) ok ho hD hp undef,hw] at h0;cases h0
def lkW(ops:Array Oper)(listed:Array Bool)(t:Nat):Nat→Option Nat
 | 0=>none
 | k+1=>if jY ops k=some t∧listed.getD k false=true then some k else lkW ops listed t k
def fv(base:Nat→Value)(vals:Nat→Value)(t:Nat):Option Nat→Value
 | none=>base t
 | some j=>vals j
structure Fri(ops:Array Oper)(base:Nat→Value)(N:Nat)(listed:Array Bool)(a:Act)(vals:Nat→Value):Prop where
 size:a.tmps.size=N
 defers:a.defers=[]
 at_:∀ t,a.tmps.getD t undef=fv base vals t (lkW ops listed t ops.size)
def nf(tp:List Nat)(listed:Array Bool):Prop:=∀ j,listed.getD j false=true→∀ k,(tp.getD j 0).testBit k=true→listed.getD k false=true
theorem qjS{listed:Array Bool}{t:Nat}:∀ {n j:Nat},lkW ops listed t n=some j→j < n∧jY ops j=some t∧listed.getD j false=true
 | 0,_,h=>by simp [lkW] at h
 | k+1,j,h=>by
  simp only [lkW] at h
  split at h
  ·rename_i e;simp only [Option.some.injEq] at h;subst h;exact ⟨Nat.lt_succ_self _,e⟩
  ·have:=qjS h;exact ⟨by omega,this.2⟩
theorem GU(ok:yy P ops nd tp qt N){listed:Array Bool}(cl:nf tp listed){i:Nat}{o:Oper}(ho:ops[i]?=some o)(hu:listed.getD i false=false)(hp:∀ k,(tp.getD i 0).testBit k=true→listed.getD k false=true){t:Nat}(ht:t∈o.looksAt ops) :
  ∀ n,lkW ops listed t n=xg ops t (min n i)
 | 0=>by simp [lkW,xg]
 | k+1=>by
  have ih:=GU ok cl ho hu hp ht k
  simp only [lkW]
  by_cases hd:jY ops k=some t
  ·rcases Nat.lt_trichotomy k i with h | h | h
   ·have:listed.getD k false=true:=hp k (CH ok h ho hd ht)
    rw [if_pos ⟨hd,this⟩,show min (k+1) i=k+1 from by omega]
    simp [xg,hd]
   ·subst h
    rw [if_neg (by rw [hu];simp),ih]
    congr 1;omega
   ·have hb:=qqb ok h ho hd ht
    have:¬ listed.getD k false=true:=λe=>by rw [cl k e i hb] at hu;cases hu
    rw [if_neg (λe=>this e.2),ih]
    congr 1;omega
  ·rw [if_neg (λe=>hd e.1),ih]
   rcases Nat.lt_or_ge k i with h | h
   ·rw [show min k i=k from by omega,show min (k+1) i=k+1 from by omega]
    simp [xg,hd]
   ·congr 1;omega
theorem Tl(ok:yy P ops nd tp qt N){listed:Array Bool}(cl:nf tp listed){i:Nat}{o:Oper}(hi:i < ops.size)(ho:ops[i]?=some o)(hu:listed.getD i false=false)(hp:∀ k,(tp.getD i 0).testBit k=true→listed.getD k false=true){a:Act}{vals:Nat→Value}(fr:Fri ops base N listed a vals){x:Operand}(hx:∀ t,x=.tmp t→t∈o.looksAt ops) :
  a.eval x=opv ops base vals i x:=by
 cases x with
 | tmp t =>
  simp only [Act.eval,opv]
  have:=fr.at_ t
  rw [GU ok cl ho hu hp (hx t rfl),show min ops.size i=i from by omega] at this
  rw [this]
  cases xg ops t i<;>rfl
 | const v=>rfl
 | global g=>rfl
 | func f=>rfl
theorem qzX(ok:yy P ops nd tp qt N){listed:Array Bool}(cl:nf tp listed){i:Nat}{o:Oper}{g:Gd}(hi:i < ops.size)(ho:ops[i]?=some o)(hg:RM ops i o=some g)(hu:listed.getD i false=false)(hp:∀ k,(tp.getD i 0).testBit k=true→listed.getD k false=true){a:Act}{vals:Nat→Value}(fr:Fri ops base N listed a vals) :
  Region.wanted o (yielded ops a.tmps)=vE ops base vals i o:=by
 unfold Region.wanted vE
 cases hgu:o.guard with
 | none=>rfl
 | some jw =>
  obtain ⟨j,want⟩:=jw
  simp only
  unfold RM at hg
  simp only [hgu] at hg
  obtain ⟨d,hd,_⟩:=Option.map_eq_some_iff.1 hg
  simp only [hd]
  have e:=Tl (base:=base) ok cl hi ho hu hp fr (x:=.tmp d) (λt e=>by cases e;exact YM hgu hd)
  rw [← e]
  have:yielded ops a.tmps j=asB (a.eval (.tmp d)):=by
   unfold yielded
   unfold jY at hd
   rw [hd]
   simp only [Option.bind_some,Act.eval]
   rcases Nat.lt_or_ge d a.tmps.size with h | h
   ·simp only [Array.getElem?_eq_getElem h,Array.getD,h,dite_true]
    cases hv:a.tmps[d]<;>simp [asB,hv]
   ·have h1:a.tmps.getD d undef=undef:=by simp [Array.getD,Nat.not_lt.2 h]
    rw [Array.getElem?_eq_none h,h1];rfl
  rw [this]
theorem xU{listed:Array Bool}{i k:Nat}(hi:i < listed.size):(listed.setIfInBounds i true).getD k false=(decide (k=i) || listed.getD k false):=by
 by_cases e:k=i
 ·subst e;simp [hi]
 ·have:i≠k:=λh=>e h.symm
  simp [Array.getElem?_setIfInBounds_ne this,e]
theorem IA(ok:yy P ops nd tp qt N){listed:Array Bool}(cl:nf tp listed){i:Nat}(hl:i < listed.size)(hu:listed.getD i false=false)(t:Nat) :
  ∀ n,lkW ops (listed.setIfInBounds i true) t n=if jY ops i=some t∧i < n then some i else lkW ops listed t n
 | 0=>by simp [lkW]
 | k+1=>by
  have ih:=IA ok cl hl hu t k
  simp only [lkW,xU hl,ih]
  by_cases hd:jY ops k=some t
  ·by_cases e:k=i
   ·subst e;simp [hd]
   ·simp only [hd,e,decide_false,Bool.false_or,true_and]
    by_cases hk:listed.getD k false=true
    ·rw [if_pos hk]
     by_cases hdi:jY ops i=some t∧i < k+1
     ·have hik:i < k:=by omega
      have:=cl k hk i (qJW ok hik hdi.1 hd)
      rw [hu] at this;cases this
     ·rw [if_neg hdi,if_pos hk]
    ·rw [if_neg hk,if_neg hk]
     by_cases hdi:jY ops i=some t
     ·by_cases h:i < k
      ·rw [if_pos ⟨hdi,h⟩,if_pos ⟨hdi,by omega⟩]
      ·rw [if_neg (λe=>h e.2),if_neg (λe=>by omega)]
     ·rw [if_neg (λe=>hdi e.1),if_neg (λe=>hdi e.1)]
  ·rw [if_neg (λe=>hd e.1),if_neg (λe:jY ops k=some t∧_=>hd e.1)]
   by_cases hdi:jY ops i=some t
   ·have hne:k≠i:=λe=>by subst e;exact hd hdi
    by_cases h:i < k
    ·rw [if_pos ⟨hdi,h⟩,if_pos ⟨hdi,by omega⟩]
    ·rw [if_neg (λe=>h e.2),if_neg (λe=>by omega)]
   ·rw [if_neg (λe=>hdi e.1),if_neg (λe=>hdi e.1)]
theorem Fri.put(ok:yy P ops nd tp qt N){listed:Array Bool}(cl:nf tp listed){i:Nat}{o:Oper}(hi:i < ops.size)(ho:ops[i]?=some o)(hl:i < listed.size)(hu:listed.getD i false=false){a:Act}{vals vals':Nat→Value}(fr:Fri ops base N listed a vals)(hv:∀ k,listed.getD k false=true→vals' k=vals k){v:Value}(hvi:vals' i=v) :
  Fri ops base N (listed.setIfInBounds i true) (a.put o.dst v) vals':=by
 have hdo:jY ops i=o.dst:=by simp [jY,ho]
 have hold:∀ t n,fv base vals' t (lkW ops listed t n)=fv base vals t (lkW ops listed t n):=λt n=>by
  cases h:lkW ops listed t n with
  | none=>rfl
  | some j=>exact hv j (qjS h).2.2
 cases hd:o.dst with
 | none =>
  rw [hd] at hdo
  refine ⟨fr.size,fr.defers,λt=>?_⟩
  rw [IA ok cl hl hu t,if_neg (λe=>by rw [hdo] at e;cases e.1),hold]
  exact fr.at_ t
 | some d =>
  rw [hd] at hdo
  have hdN:=ok.hdst i d hdo
  refine ⟨by simp [Act.put,fr.size],fr.defers,λt=>?_⟩
  rw [IA ok cl hl hu t]
  by_cases e:t=d
  ·subst e
   rw [if_pos ⟨hdo,hi⟩]
   simp only [fv,hvi,Act.put]
   have:t < a.tmps.size:=by rw [fr.size];exact hdN
   simp [this]
  ·rw [if_neg (λh=>by rw [hdo] at h;exact e (Option.some.inj h.1).symm),hold]
   rw [← fr.at_ t]
   simp only [Act.put]
   have:d≠t:=λh=>e h.symm
   simp [Array.getElem?_setIfInBounds_ne this]
end sim
end Go.Fw
namespace Go.Fw
section sim
variable {P:Program} {ops:Array Oper} {base:Nat→Value} {nd:List Nd} {tp:List Nat} {qt:List Bool} {N:Nat} {outs:List (Nat×X)} {K:Env→Mem→Prop}
theorem qjh{ro:RO}(h:ro.reads=false)(args:List Value)(m m':Mem):rd ro args m=rd ro args m':=by
 simp only [rd,h]
theorem tE{o:Oper}{a:Act}{w:World}{Kx:Value→Mem→Prop}{next:Act→World→Prop}{Q:Exit→Act→World→Prop}(h:Er P o a.eval (qO w) Kx)(hn:∀ v w',jg w w'→Kx v (qO w')→next (a.put o.dst v) w'):o.wp P a w next Q:=by
 have h1:=h w rfl
 unfold Oper.wp
 generalize (execOp a.eval o).run P w=r at *
 cases r with
 | halt x w'=>exact h1.elim
 | ok n w' =>
  cases n<;>simp only [UY] at h1<;>simp only [Oper.upon]<;>first | exact h1.elim | skip
  ·exact hn _ _ h1.1 h1.2
  ·exact hn _ _ h1.1 h1.2
  ·exact h1.2.mono λe w'' ⟨v,he,hs,hk⟩=>by subst he;exact hn _ _ (h1.1.trans hs) hk
theorem He{L:Nat→Value}{σ:Env}{m:Mem}:∀ {l:List ET},etP P L (UK l) σ m K→∀ e∈l,etP P L e σ m K
 | [],_,e,he=>by cases he
 | [a],h,e,he=>by simp only [List.mem_singleton] at he;subst he;exact h
 | a::b::r,h,e,he=>by
  simp only [UK,etP] at h
  rcases List.mem_cons.1 he with rfl | he
  ·exact h.1
  ·exact He (l:=b::r) h.2 e he
theorem TY{L:Nat→Value}{σ:Env}{m:Mem}:∀ {l:List (Nat×RO×List X×Gd)},rcP L σ m l→∀ e∈l,gP L σ e.2.2.2 (rd e.2.1 (e.2.2.1.map (X.ev L σ)) m=some (σ.get e.1)) True
 | [],_,e,he=>by cases he
 | (i,ro,args,g)::r,h,e,he=>by
  simp only [rcP] at h
  rcases List.mem_cons.1 he with rfl | he
  ·exact h.1
  ·exact TY h.2 e he
structure St(P:Program)(ops:Array Oper)(base:Nat→Value)(tp:List Nat)(qt:List Bool)(N:Nat)(listed:Array Bool)(a:Act)(w:World)(D:Nat)(σ:Env)(vals:Nat→Value):Prop where
 can:Can ops base tp D σ vals
 sat:cG (List.range ops.size) tp qt D=none
 size:listed.size=ops.size
 closed:nf tp listed
 sub:∀ i,listed.getD i false=true→D.testBit i=true
 xin:∀ i,i < ops.size→D.testBit i=true→listed.getD i false=false→qt.getD i false=true
 qf:∀ i,i < ops.size→D.testBit i=true→listed.getD i false=false→QF P ops base vals (qO w) i
 fri:Fri ops base N listed a vals
theorem qZp(ok:yy P ops nd tp qt N){listed:Array Bool}{a:Act}{w:World}{D:Nat}{σ:Env}{vals:Nat→Value}(s:St P ops base tp qt N listed a w D σ vals)(hall:∀ i,i < ops.size→listed.getD i false=true)(t:Nat):a.tmps.getD t undef=(src ops ops.size (.tmp t)).ev base σ:=by
 have e:∀ n,n≤ops.size→lkW ops listed t n=xg ops t n:=by
  intro n
  induction n with
  | zero=>intro _;rfl
  | succ k ih =>
   intro hk
   simp only [lkW,xg,ih (by omega)]
   have:=hall k (by omega)
   by_cases hd:jY ops k=some t
   ·rw [if_pos ⟨hd,this⟩,if_pos hd]
   ·rw [if_neg (λe=>hd e.1),if_neg hd]
 rw [s.fri.at_ t,e _ (Nat.le_refl _),HF (base:=base) ok s.can (Nat.le_refl _) (λt' j _ hw=>s.sub j (hall j (Wi hw).1))]
 simp only [opv]
 cases xg ops t ops.size<;>rfl
theorem sim(ok:yy P ops nd tp qt N)(dr:qQz ops tp)(houts:∀ p∈outs,p.2=src ops ops.size (.tmp p.1)){w0:World}{Q:Exit→Act→World→Prop}(hQ:∀ a' w' L',jg w0 w'→a'.tmps.size=N→a'.defers=[]→(∀ p∈L',a'.tmps.getD p.1 undef=p.2)→K L' (qO w')→Q .normal a' w') :
  ∀ (k:Nat) (listed:Array Bool) (a:Act) (w:World) (f D:Nat) (σ:Env) (vals:Nat→Value),(∃ left:List Nat,left.length≤k∧∀ i,i < ops.size→listed.getD i false=false→i∈left)→jg w0 w →
   St P ops base tp qt N listed a w D σ vals→etP P base (mkT (List.range ops.size) nd tp qt outs (f+1) D) σ (qO w) K→wpAny P .any ops Q k listed a w:=by
 have hend:∀ (listed:Array Bool) (a:Act) (w:World) (f D:Nat) (σ:Env) (vals:Nat→Value),jg w0 w→St P ops base tp qt N listed a w D σ vals →
   etP P base (mkT (List.range ops.size) nd tp qt outs (f+1) D) σ (qO w) K→Region.ready .any ops listed=[]→Q .normal a w:=by
  intro listed a w f D σ vals hs s het hr
  have hall:∀ i,i < ops.size→listed.getD i false=true:=by
   intro i
   induction i using Nat.strongRecOn with
   | _ i ih =>
    intro hi
    cases hu:listed.getD i false
    ·exfalso
     have:i∈Region.ready .any ops listed:=by
      rw [mem_ready]
      refine ⟨?_,ops[i],Array.getElem?_eq_getElem hi,λe he hb=>?_⟩
      ·have:i < listed.size:=by rw [s.size];exact hi
       simp only [Array.getD_eq_getD_getElem?,Array.getElem?_eq_getElem this,Option.getD_some] at hu ⊢
       exact hu
      ·have hlt:=dr.back i ops[i] (Array.getElem?_eq_getElem hi) e he hb
       exact ih e.on hlt (by omega)
     rw [hr] at this;cases this
    ·rfl
  have hD:∀ i,i < ops.size→D.testBit i=true:=λi hi=>s.sub i (hall i hi)
  simp only [mkT,s.sat] at het
  have hrx:rA (List.range ops.size) tp qt D=[]:=by
   unfold rA
   rw [List.filter_eq_nil_iff]
   intro i hi
   simp [hD i (by simpa using hi)]
  have hal:(List.range ops.size).all (λi=>D.testBit i)=true:=by
   rw [List.all_eq_true];intro i hi;exact hD i (by simpa using hi)
  simp only [hrx,hal,if_true,etP] at het
  refine hQ a w _ hs s.fri.size s.fri.defers ?_ het
  intro p hp
  obtain ⟨q,hq,rfl⟩:=List.mem_map.1 hp
  simp only
  rw [houts q hq]
  exact qZp ok s hall q.1
 intro k
 induction k with
 | zero =>
  rintro listed a w f D σ vals ⟨left,hlen,hleft⟩ hs s het
  have hnil:left=[]:=List.eq_nil_of_length_eq_zero (by omega)
  subst hnil
  have hr:Region.ready .any ops listed=[]:=by
   cases hr:Region.ready .any ops listed with
   | nil=>rfl
   | cons i r =>
    have hi:i∈Region.ready .any ops listed:=by rw [hr];exact List.mem_cons_self ..
    obtain ⟨h0,o,ho,_⟩:=mem_ready.1 hi
    have hlt:i < ops.size:=(Array.getElem?_eq_some_iff.1 ho).1
    have hl:i < listed.size:=by rw [s.size];exact hlt
    have:listed.getD i false=false:=by
     simp only [Array.getD_eq_getD_getElem?,Array.getElem?_eq_getElem hl,Option.getD_some] at h0 ⊢
     exact h0
    cases hleft i hlt this
  exact ⟨hr,hend listed a w f D σ vals hs s het hr⟩
 | succ k ih =>
  rintro listed a w f D σ vals ⟨left,hlen,hleft⟩ hs s het
  refine ⟨λhr=>hend listed a w f D σ vals hs s het hr,λi hir=>?_⟩
  obtain ⟨h0,o,ho,hdir⟩:=mem_ready.1 hir
  have hlt:i < ops.size:=(Array.getElem?_eq_some_iff.1 ho).1
  have hl:i < listed.size:=by rw [s.size];exact hlt
  have hu:listed.getD i false=false:=by
   simp only [Array.getD_eq_getD_getElem?,Array.getElem?_eq_getElem hl,Option.getD_some] at h0 ⊢
   exact h0
  have hp:∀ j,(tp.getD i 0).testBit j=true→listed.getD j false=true:=by
   intro j hj
   obtain ⟨e,he,hb,h | h⟩:=dr.htp i o ho j hj
   ·subst h;exact hdir e he hb
   ·exact s.closed e.on (hdir e he hb) j h
  have hpD:∀ j,(tp.getD i 0).testBit j=true→D.testBit j=true:=λj hj=>s.sub j (hp j hj)
  obtain ⟨d,hd,hnd⟩:=ok.hnd i hlt
  obtain ⟨o',ro,xl,g,ho',hr,hk,hg,hde⟩:=WY hnd
  rw [ho] at ho';cases ho'
  have hqt:=ok.hqt i d hlt hd
  have hwa:=qzX (base:=base) ok s.closed hlt ho hg hu hp s.fri
  have hargs:xl.map a.eval=xl.map (opv ops base vals i):=List.map_congr_left λx hx =>
   Tl (base:=base) ok s.closed hlt ho hu hp s.fri (λt e=>by subst e;exact Ia hk hx)
  have hleft':∃ left':List Nat,left'.length≤k∧∀ j,j < ops.size→(listed.setIfInBounds i true).getD j false=false→j∈left':=by
   have hmem:=hleft i hlt hu
   refine ⟨left.erase i,by rw [List.length_erase_of_mem hmem];omega,λj hj hju=>?_⟩
   rw [xU hl] at hju
   simp only [Bool.or_eq_false_iff,decide_eq_false_iff_not] at hju
   exact (List.mem_erase_of_ne hju.1).2 (hleft j hj hju.2)
  have hcl':nf tp (listed.setIfInBounds i true):=by
   intro j hj n hn
   rw [xU hl] at hj ⊢
   by_cases e:j=i
   ·subst e;rw [hp n hn];simp
   ·simp only [e,decide_false,Bool.false_or] at hj
    rw [s.closed j hj n hn];simp
  unfold wpOp
  simp only [ho]
  cases hqi:ro.quiet with
  | true =>
   have hqg:qt.getD i false=true:=by rw [List.getD_eq_getElem?_getD,hqt,hde];simpa using hqi
   have hD:D.testBit i=true:=NH s.sat (by simpa using hlt) hqg hpD
   have hqf:=s.qf i hlt hD hu o ro xl ho hr
   have hnext:wpAny P .any ops Q k (listed.setIfInBounds i true) (a.put o.dst (vals i)) w:=by
    refine ih _ _ _ f D σ vals hleft' hs ?_ het
    refine ⟨s.can,s.sat,by simp [s.size],hcl',λj hj=>?_,λj hj hjD hju=>?_,λj hj hjD hju=>?_,?_⟩
    ·rw [xU hl] at hj
     by_cases e:j=i
     ·subst e;exact hD
     ·simp only [e,decide_false,Bool.false_or] at hj;exact s.sub j hj
    ·rw [xU hl] at hju
     simp only [Bool.or_eq_false_iff] at hju
     exact s.xin j hj hjD hju.2
    ·rw [xU hl] at hju
     simp only [Bool.or_eq_false_iff] at hju
     exact s.qf j hj hjD hju.2
    ·exact s.fri.put ok s.closed hlt ho hl hu (λ_ _=>rfl) rfl
   rw [hwa]
   cases hw:vE ops base vals i o with
   | true =>
    simp only [if_true]
    left
    have hrd:=hqf.2.1 hw
    rw [← hargs] at hrd
    have hrun:=GA (w:=w) hr hqi hrd rfl (λf=>rfl)
    unfold Oper.wp
    rw [hrun]
    exact hnext
   | false =>
    simp only [Bool.false_eq_true,if_false]
    rw [← hqf.2.2 hw]
    exact hnext
  | false =>
   have hqg:qt.getD i true=false:=by rw [List.getD_eq_getElem?_getD,hqt,hde];simpa using hqi
   have hqg':qt.getD i false=false:=by rw [List.getD_eq_getElem?_getD,hqt,hde];simpa using hqi
   have hD:D.testBit i=false:=by
    cases h:D.testBit i
    ·rfl
    ·have:=s.xin i hlt h hu;rw [hqg'] at this;cases this
   have hmv:Kv ops i=none:=by
    cases hm:Kv ops i with
    | none=>rfl
    | some x =>
     have:=(QF.qyH (P:=P) (m:=qO w) (vals:=upd vals i (opv ops base vals i x)) hm (by
      rw [XO]
      obtain ⟨o2,ho2,hl2⟩:=cn hm
      rw [ho] at ho2;cases ho2
      exact (Bz (base:=base) ok ho hD hpD _ hl2).symm)) o ro xl ho hr
     rw [hqi] at this;cases this.1
   have hin:i∈rA (List.range ops.size) tp qt D:=by
    unfold rA
    rw [List.mem_filter]
    refine ⟨by simpa using hlt,?_⟩
    have hand:((tp.getD i 0) &&& D == tp.getD i 0)=true:=by
     simp only [beq_iff_eq]
     apply Nat.eq_of_testBit_eq
     intro n
     rw [Nat.testBit_and]
     cases hb:(tp.getD i 0).testBit n
     ·rfl
     ·simp [hpD n hb]
    rw [hD,hqg,hand];rfl
   have hx:etP P base (.x i ro (xl.map (src ops i)) g (qvt (List.range ops.size) nd tp D i) (mkT (List.range ops.size) nd tp qt outs f (D ||| 2 ^ i))) σ (qO w) K:=by
    simp only [mkT,s.sat] at het
    cases hrl:rA (List.range ops.size) tp qt D with
    | nil=>rw [hrl] at hin;cases hin
    | cons j0 r0 =>
     rw [hrl] at het hin
     simp only at het
     have:=He het _ (List.mem_map.2 ⟨i,hin,rfl⟩)
     rw [hd] at this
     simp only [hde] at this
     exact this
   simp only [etP] at hx
   have hgw:=oL (base:=base) ok s.can hlt ho hpD hg hx
   have hav:=re (base:=base) ok s.can hlt ho hpD hk
   have hafter:∀ v w',jg w0 w'→(∀ j,j < ops.size→D.testBit j=true→(listed.setIfInBounds i true).getD j false=false→QF P ops base (upd vals i v) (qO w') j) →
     etP P base (mkT (List.range ops.size) nd tp qt outs f (D ||| 2 ^ i)) ((i,v)::σ) (qO w') K→wpAny P .any ops Q k (listed.setIfInBounds i true) (a.put o.dst v) w':=by
    intro v w' hs' hqf' het'
    have c1:=s.can.add ok hlt hD hpD v ((i,v)::σ) (λ_=>rfl) (λx e=>by rw [hmv] at e;cases e)
    obtain ⟨f',D',σ',vals',c',hq',het'',hk',hn'⟩:=advance ok f (D ||| 2 ^ i) _ _ _ c1 het'
    have hiD':(D ||| 2 ^ i).testBit i=true:=by rw [qL];simp
    refine ih _ _ _ f' D' σ' vals' hleft' hs' ?_ het''
    refine ⟨c',hq',by simp [s.size],hcl',λj hj=>?_,λj hj hjD hju=>?_,λj hj hjD hju=>?_,?_⟩
    ·rw [xU hl] at hj
     refine (hk' j ?_).1
     rw [qL]
     by_cases e:j=i
     ·simp [e]
     ·simp only [e,decide_false,Bool.false_or] at hj;simp [s.sub j hj]
    ·have hne:j≠i:=λe=>by subst e;rw [xU hl] at hju;simp at hju
     rcases hn' j hjD with h' | h'
     ·rw [qL] at h'
      simp only [hne,decide_false,Bool.or_false] at h'
      rw [xU hl] at hju
      simp only [Bool.or_eq_false_iff] at hju
      exact s.xin j hj h' hju.2
     ·obtain ⟨dj,hdj,hndj⟩:=ok.hnd j hj
      obtain ⟨oj,roj,xlj,gj,hoj,hrj,_,_,hdej⟩:=WY hndj
      have:=(h' oj roj xlj hoj hrj).1
      rw [List.getD_eq_getElem?_getD,ok.hqt j dj hj hdj,hdej]
      simpa using this
    ·have hne:j≠i:=λe=>by subst e;rw [xU hl] at hju;simp at hju
     rcases hn' j hjD with h' | h'
     ·have h'':=h'
      rw [qL] at h'
      simp only [hne,decide_false,Bool.or_false] at h'
      obtain ⟨dj,hdj,hndj⟩:=ok.hnd j hj
      exact QF.Nn (D:=D ||| 2 ^ i) ok hndj h'' (c1.closed j h'') (λn hn=>(hk' n hn).2) (hqf' j hj h' hju)
     ·exact h'
    ·have hvi:vals' i=v:=by rw [(hk' i hiD').2,XO]
     refine s.fri.put ok s.closed hlt ho hl hu (λn hn=>?_) hvi
     have hnD:=s.sub n hn
     have hne:n≠i:=λe=>by subst e;rw [hD] at hnD;cases hnD
     rw [(hk' n (by rw [qL];simp [hnD])).2,aC v hne]
   rw [hwa]
   cases hw:vE ops base vals i o with
   | false =>
    simp only [Bool.false_eq_true,if_false]
    refine hafter undef w hs (λj hj hjD hju=>?_) (hgw.2 hw)
    rw [xU hl] at hju
    simp only [Bool.or_eq_false_iff,decide_eq_false_iff_not] at hju
    obtain ⟨dj,hdj,hndj⟩:=ok.hnd j hj
    exact QF.Nn (D:=D) ok hndj hjD (s.can.closed j hjD) (λn hn=>aC _ (λe=>by subst e;rw [hD] at hn;cases hn)) (s.qf j hj hjD hju.2)
   | true =>
    simp only [if_true]
    left
    have hxs:=hgw.1 hw
    rw [hav,← hargs] at hxs
    have hst:=qyF hr hqi hxs (λf=>rfl)
    refine tE hst λv w' hs' ⟨hrc,het'⟩=>hafter v w' (hs.trans hs') (λj hj hjD hju=>?_) het'
    rw [xU hl] at hju
    simp only [Bool.or_eq_false_iff,decide_eq_false_iff_not] at hju
    obtain ⟨dj,hdj,hndj⟩:=ok.hnd j hj
    have hold:=s.qf j hj hjD hju.2
    have hkeepD:∀ n,D.testBit n=true→upd vals i v n=vals n:=λn hn=>aC _ (λe=>by subst e;rw [hD] at hn;cases hn)
    have h1:=QF.Nn (D:=D) ok hndj hjD (s.can.closed j hjD) hkeepD hold
    obtain ⟨oj,roj,xlj,gj,hoj,hrj,hkj,hgj,hdej⟩:=WY hndj
    intro oj' roj' xlj' hoj' hrj'
    rw [hoj] at hoj';cases hoj'
    rw [hrj] at hrj';cases hrj'
    have h1':=h1 oj roj xlj hoj hrj
    refine ⟨h1'.1,λhwj=>?_,h1'.2.2⟩
    cases hre:roj.reads with
    | false=>rw [qjh hre _ (qO w') (qO w)];exact h1'.2.1 hwj
    | true =>
     have hmem:(j,roj,xlj.map (src ops j),gj)∈qvt (List.range ops.size) nd tp D i:=by
      unfold qvt
      rw [List.mem_filterMap]
      refine ⟨j,by simpa using hj,?_⟩
      have hntp:(tp.getD i 0).testBit j=false:=by
       cases h:(tp.getD i 0).testBit j
       ·rfl
       ·rw [hp j h] at hju;cases hju.2
      rw [hdj]
      simp only [Option.bind_some,hdej]
      rw [hjD,h1'.1,hre,hntp]
      rfl
     have hg1:=TY hrc _ hmem
     have c1:=s.can.add ok hlt hD hpD v ((i,v)::σ) (λ_=>rfl) (λx e=>by rw [hmv] at e;cases e)
     have hpj:∀ n,(tp.getD j 0).testBit n=true→(D ||| 2 ^ i).testBit n=true:=λn hn=>c1.closed j (by rw [qL];simp [hjD]) n hn
     have hg2:=(oL (base:=base) ok c1 hj hoj hpj hgj hg1).1 hwj
     rw [re (base:=base) ok c1 hj hoj hpj hkj] at hg2
     have hmvj:Kv ops j=none:=by
      cases hm:Kv ops j with
      | none=>rfl
      | some x =>
       obtain ⟨hgn,hop⟩:=CF hm hoj
       obtain ⟨dst,op,type,pos,after,guard⟩:=oj
       rcases hop with rfl | rfl<;>(simp only [qz] at hrj;obtain ⟨rfl,rfl⟩:=qJ hrj;simp [RO.reads] at hre)
     rw [hg2,c1.sg j (by rw [qL];simp [hjD]) hmvj]
theorem xB(i k:Nat):(2 ^ i - 1).testBit k=decide (k < i):=Nat.testBit_two_pow_sub_one i k
theorem qvy(ok:yy P ops nd tp qt N)(htp:∀ i,i < ops.size→∀ k,(tp.getD i 0).testBit k=true→k < i)(houts:∀ p∈outs,p.2=src ops ops.size (.tmp p.1)){w0:World}{Q:Exit→Act→World→Prop}(hQ:∀ a' w' L',jg w0 w'→a'.tmps.size=N→a'.defers=[]→(∀ p∈L',a'.tmps.getD p.1 undef=p.2)→K L' (qO w')→Q .normal a' w') :
  ∀ (k i:Nat) (a:Act) (w:World) (σ:Env) (vals:Nat→Value),i+k=ops.size→nd.length=ops.size→jg w0 w→a.tmps.size=N→a.defers=[]→Can ops base tp (2 ^ i - 1) σ vals →
   (∀ t,a.tmps.getD t undef=fv base vals t (xg ops t i))→etP P base (mkS outs (nd.drop i) i) σ (qO w) K→wpList P ops Q (ops.toList.drop i) a w:=by
 intro k
 induction k with
 | zero =>
  intro i a w σ vals hik hlen hs hN hdf c hfr het
  have e:i=ops.size:=by omega
  subst e
  rw [List.drop_eq_nil_of_le (by simp)]
  rw [List.drop_eq_nil_of_le (by omega)] at het
  simp only [mkS,etP] at het
  refine hQ a w _ hs hN hdf (λp hp=>?_) het
  obtain ⟨q,hq,rfl⟩:=List.mem_map.1 hp
  simp only
  rw [houts q hq,HF (base:=base) ok c (Nat.le_refl _) (λt j _ hw=>by rw [xB];simpa using (Wi hw).1),hfr]
  simp only [opv]
  cases xg ops q.1 ops.size<;>rfl
 | succ k ih =>
  intro i a w σ vals hik hlen hs hN hdf c hfr het
  have hlt:i < ops.size:=by omega
  obtain ⟨d,hd,hnd⟩:=ok.hnd i hlt
  obtain ⟨o,ro,xl,g,ho,hr,hk,hg,hde⟩:=WY hnd
  have hoe:ops.toList.drop i=o::ops.toList.drop (i+1):=by
   rw [List.drop_eq_getElem_cons (by simpa using hlt)]
   congr 1
   rw [Array.getElem?_eq_getElem hlt] at ho
   simpa using ho
  have hde':nd.drop i=d::nd.drop (i+1):=by
   have hl:i < nd.length:=by omega
   rw [List.drop_eq_getElem_cons hl]
   congr 1
   rw [List.getElem?_eq_getElem hl] at hd
   simpa using hd
  rw [hde'] at het
  rw [hoe]
  have hD:(2 ^ i - 1).testBit i=false:=by rw [xB];simp
  have hp:∀ n,(tp.getD i 0).testBit n=true→(2 ^ i - 1).testBit n=true:=λn hn=>by rw [xB];simpa using htp i hlt n hn
  have hsucc:(2 ^ i - 1) ||| 2 ^ i=2 ^ (i+1) - 1:=by
   apply Nat.eq_of_testBit_eq
   intro n
   rw [qL,xB,xB]
   by_cases e:n=i
   ·subst e;simp
   ·simp only [e,decide_false,Bool.or_false]
    congr 1
    exact propext (by omega)
  have hact:∀ x:Operand,a.eval x=opv ops base vals i x:=λx=>by
   cases x with
   | tmp t=>simp only [Act.eval,opv];rw [hfr t];cases xg ops t i<;>rfl
   | const v=>rfl
   | global g=>rfl
   | func f=>rfl
  have hargs:xl.map a.eval=xl.map (opv ops base vals i):=List.map_congr_left λx _=>hact x
  have hwa:Region.wanted o (yielded ops a.tmps)=vE ops base vals i o:=by
   unfold Region.wanted vE
   cases hgu:o.guard with
   | none=>rfl
   | some jw =>
    obtain ⟨j,want⟩:=jw
    simp only
    unfold RM at hg
    simp only [hgu] at hg
    obtain ⟨d',hd',_⟩:=Option.map_eq_some_iff.1 hg
    simp only [hd']
    rw [← hact (.tmp d')]
    have:yielded ops a.tmps j=asB (a.eval (.tmp d')):=by
     unfold yielded
     unfold jY at hd'
     rw [hd']
     simp only [Option.bind_some,Act.eval]
     rcases Nat.lt_or_ge d' a.tmps.size with h | h
     ·simp only [Array.getElem?_eq_getElem h,Array.getD,h,dite_true]
      cases hv:a.tmps[d']<;>simp [asB,hv]
     ·have h1:a.tmps.getD d' undef=undef:=by simp [Array.getD,Nat.not_lt.2 h]
      rw [Array.getElem?_eq_none h,h1];rfl
    rw [this]
  have hnext:∀ (v:Value) (σ1:Env) (w':World),jg w0 w'→(Kv ops i=none→σ1=(i,v)::σ)→(∀ x,Kv ops i=some x→σ1=σ∧v=opv ops base vals i x) →
    etP P base (mkS outs (nd.drop (i+1)) (i+1)) σ1 (qO w') K→wpList P ops Q (ops.toList.drop (i+1)) (a.put o.dst v) w':=by
   intro v σ1 w' hs' h1 h2 het'
   have c1:=c.add ok hlt hD hp v σ1 h1 h2
   rw [hsucc] at c1
   have hdo:jY ops i=o.dst:=by simp [jY,ho]
   refine ih (i+1) _ w' σ1 (upd vals i v) (by omega) hlen hs' ?_ ?_ c1 (λt=>?_) het'
   ·cases hdd:o.dst<;>simp [Act.put,hN]
   ·cases hdd:o.dst<;>simp [Act.put,hdf]
   ·simp only [xg,hdo]
    have hold:fv base (upd vals i v) t (xg ops t i)=a.tmps.getD t undef:=by
     rw [hfr t]
     cases hw:xg ops t i with
     | none=>rfl
     | some j=>simp only [fv];exact aC v (by have:=(Wi hw).1;omega)
    cases hdd:o.dst with
    | none=>simp only [Act.put,reduceCtorEq,if_false];exact hold.symm
    | some dd =>
     have hdN:=ok.hdst i dd (by rw [hdo];exact hdd)
     by_cases e:dd=t
     ·subst e
      simp only [Act.put,if_true,fv,XO]
      have:dd < a.tmps.size:=by rw [hN];exact hdN
      simp [this]
     ·rw [if_neg (λh=>e (Option.some.inj h)),hold]
      simp only [Act.put]
      simp [Array.getElem?_setIfInBounds_ne e]
  unfold wpList
  rw [hwa]
  cases hm:Kv ops i with
  | some x =>
   have hmv:d.mv=true:=by rw [hde];simp [hm]
   simp only [mkS,hmv,if_true] at het
   obtain ⟨hgn,hop⟩:=CF hm ho
   have hwt:vE ops base vals i o=true:=by simp [vE,hgn]
   rw [hwt]
   simp only [if_true]
   left
   have hrun:(execOp a.eval o).run P w=.ok (.value (a.eval x)) w:=by
    rcases hop with e | e<;>simp [execOp,e]
   unfold Oper.wp
   rw [hrun]
   simp only [Oper.upon]
   exact hnext _ σ w hs (λe=>by rw [hm] at e;cases e) (λx' e=>by rw [hm] at e;cases e;exact ⟨rfl,hact x⟩) het
  | none =>
   have hmv:d.mv=false:=by rw [hde];simp [hm]
   have h1:∀ v,(Kv ops i=none→((i,v)::σ)=(i,v)::σ):=λ_ _=>rfl
   have h2:∀ v x,Kv ops i=some x→((i,v)::σ)=σ∧v=opv ops base vals i x:=λ_ x e=>by rw [hm] at e;cases e
   simp only [mkS,hmv,Bool.false_eq_true,if_false] at het
   cases hq:ro.quiet with
   | true =>
    have hq':d.ro.quiet=true:=by rw [hde];exact hq
    simp only [hq',if_true,etP] at het
    rw [hde] at het
    simp only at het
    have hgw:=oL (base:=base) ok c hlt ho hp hg het
    have hav:=re (base:=base) ok c hlt ho hp hk
    cases hw:vE ops base vals i o with
    | true =>
     simp only [if_true]
     left
     obtain ⟨v,hv,het'⟩:=hgw.1 hw
     rw [hav,← hargs] at hv
     have hrun:=GA (w:=w) hr hq hv rfl (λf=>rfl)
     unfold Oper.wp
     rw [hrun]
     exact hnext v _ w hs (h1 v) (h2 v) het'
    | false =>
     simp only [Bool.false_eq_true,if_false]
     exact hnext undef _ w hs (h1 undef) (h2 undef) (hgw.2 hw)
   | false =>
    have hq':d.ro.quiet=false:=by rw [hde];exact hq
    simp only [hq',Bool.false_eq_true,if_false,etP] at het
    rw [hde] at het
    simp only at het
    have hgw:=oL (base:=base) ok c hlt ho hp hg het
    have hav:=re (base:=base) ok c hlt ho hp hk
    cases hw:vE ops base vals i o with
    | true =>
     simp only [if_true]
     left
     have hxs:=hgw.1 hw
     rw [hav,← hargs] at hxs
     have hst:=qyF hr hq hxs (λf=>rfl)
     exact tE hst λv w' hs' ⟨_,het'⟩=>hnext v _ w' (hs.trans hs') (h1 v) (h2 v) het'
    | false =>
     simp only [Bool.false_eq_true,if_false]
     exact hnext undef _ w hs (h1 undef) (h2 undef) (hgw.2 hw)
end sim
end Go.Fw
namespace Go.Fw
def backB(ops:Array Oper):Bool:=(List.range ops.size).all λi=>match ops[i]? with | some o=>o.after.toList.all λe=>!Region.binds .any e || decide (e.on < i) | none=>true
def apB(ops:Array Oper)(tp:List Nat):Bool :=
 (List.range ops.size).all λj=>(List.range j).all λi=>(tp.getD j 0).testBit i || (match ops[i]?,ops[j]? with | some x,some y=>x.apart ops y | _,_=>true)
def dstB(ops:Array Oper)(N:Nat):Bool:=(List.range ops.size).all λi=>match jY ops i with | some d=>decide (d < N) | none=>true
def HT(P:Program)(N:Nat)(ops:Array Oper)(draw:Bool)(live:List Nat):Option ET :=
 ((List.range ops.size).mapM (qqK P ops)).bind λnd =>
  if dstB ops N then
   if draw then
    if backB ops && apB ops (tps ops.toList []) then
     some (mkT (List.range ops.size) nd (tps ops.toList []) (nd.map (·.ro.quiet)) (live.map λt=>(t,src ops ops.size (.tmp t))) (2*ops.size+2) 0)
    else none
   else some (mkS (live.map λt=>(t,src ops ops.size (.tmp t))) nd 0)
  else none
theorem Tz:∀ (l:List Oper) (acc:List Nat),(tps l acc).length=acc.length+l.length
 | [],acc=>by simp [tps]
 | o::r,acc=>by simp [tps,Tz r];omega
theorem Hr:∀ (l:List Oper) (acc:List Nat) (i:Nat),i < acc.length→(tps l acc).getD i 0=acc.getD i 0
 | [],acc,i,h=>rfl
 | o::r,acc,i,h=>by
  rw [tps,Hr r _ i (by simp;omega)]
  simp [List.getElem?_append_left h]
theorem qzm:∀ (l:List Oper) (acc:List Nat) (i:Nat) (o:Oper),l[i]?=some o→(tps l acc).getD (acc.length+i) 0=lE ((tps l acc).take (acc.length+i)) o
 | [],acc,i,o,h=>by simp at h
 | o::r,acc,0,o',h=>by
  simp only [List.getElem?_cons_zero,Option.some.injEq] at h
  subst h
  have h1:=Hr r (acc++[lE acc o]) acc.length (by simp)
  simp only [tps,Nat.add_zero]
  rw [h1]
  have h2:(tps r (acc++[lE acc o])).take acc.length=acc:=by
   apply List.ext_getElem?
   intro n
   rw [List.getElem?_take]
   split
   ·rename_i hn
    have h3:=Hr r (acc++[lE acc o]) n (by simp;omega)
    have hl:n < (tps r (acc++[lE acc o])).length:=by rw [Tz];simp;omega
    rw [List.getD_eq_getElem?_getD,List.getElem?_eq_getElem hl,List.getD_eq_getElem?_getD,List.getElem?_append_left hn,List.getElem?_eq_getElem hn] at h3
    simp only [Option.getD_some] at h3
    rw [List.getElem?_eq_getElem hl,List.getElem?_eq_getElem hn,h3]
   ·rename_i hn
    rw [List.getElem?_eq_none (by omega)]
  rw [h2]
  simp
 | o::r,acc,i+1,o',h=>by
  have:=qzm r (acc++[lE acc o]) i o' (by simpa using h)
  simp only [List.length_append,List.length_cons,List.length_nil] at this
  simp only [tps]
  rw [show acc.length+(i+1)=acc.length+(0+1)+i from by omega]
  exact this
theorem Bm{acc:List Nat}{k:Nat}:∀ (es:List Edge) (s0:Nat),(es.foldl (λs e=>if Region.binds .any e then s ||| 2 ^ e.on ||| acc.getD e.on 0 else s) s0).testBit k=true →
  s0.testBit k=true∨∃ e∈es,Region.binds .any e=true∧(k=e.on∨(acc.getD e.on 0).testBit k=true)
 | [],s0,h=>.inl h
 | e::r,s0,h=>by
  simp only [List.foldl_cons] at h
  rcases Bm r _ h with h' | ⟨e',he',hb⟩
  ·split at h'
   ·rename_i hb
    rw [Nat.testBit_or,qL] at h'
    simp only [Bool.or_eq_true,decide_eq_true_eq] at h'
    rcases h' with (h' | h') | h'
    ·exact .inl h'
    ·exact .inr ⟨e,List.mem_cons_self ..,hb,.inl h'⟩
    ·exact .inr ⟨e,List.mem_cons_self ..,hb,.inr h'⟩
   ·exact .inl h'
  ·exact .inr ⟨e',List.mem_cons_of_mem _ he',hb⟩
theorem mapM_some{α β:Type}{f:α→Option β}:∀ {l:List α} {r:List β},l.mapM f=some r→r.length=l.length∧∀ (i:Nat) (a:α),l[i]?=some a→∃ b,r[i]?=some b∧f a=some b
 | [],r,h=>by simp only [List.mapM_nil,pure,Option.some.injEq] at h;subst h;simp
 | a::l,r,h=>by
  simp only [List.mapM_cons,bind,pure,Option.bind_eq_some_iff,Option.some.injEq] at h
  obtain ⟨b,hb,r',hr',rfl⟩:=h
  have ih:=mapM_some hr'
  refine ⟨by simp [ih.1],λi x hx=>?_⟩
  cases i with
  | zero=>simp only [List.getElem?_cons_zero,Option.some.injEq] at hx ⊢;subst hx;exact ⟨b,rfl,hb⟩
  | succ i=>simp only [List.getElem?_cons_succ] at hx ⊢;exact ih.2 i x hx
theorem MF{P:Program}{N:Nat}{ops:Array Oper}{nd:List Nd}{tp:List Nat}(hnd:(List.range ops.size).mapM (qqK P ops)=some nd)(hd:dstB ops N=true)(hap:∀ i j oi oj,i < j→ops[i]?=some oi→ops[j]?=some oj→(tp.getD j 0).testBit i=true∨oi.apart ops oj=true):yy P ops nd tp (nd.map (·.ro.quiet)) N:=by
 obtain ⟨hlen,hall⟩:=mapM_some hnd
 refine ⟨hap,λi hi=>?_,λi d hi hd'=>?_,λi d hd'=>?_⟩
 ·obtain ⟨b,hb,hf⟩:=hall i i (by rw [List.getElem?_range hi])
  exact ⟨b,hb,hf⟩
 ·simp [hd']
 ·have hi:i < ops.size:=by
   unfold jY at hd'
   obtain ⟨o,ho,_⟩:=Option.bind_eq_some_iff.1 hd'
   exact (Array.getElem?_eq_some_iff.1 ho).1
  have:=List.all_eq_true.1 hd i (by simpa using hi)
  simpa [hd'] using this
theorem qqp{ops:Array Oper}{N:Nat}{a:Act}(hN:a.tmps.size=N)(hd:a.defers=[])(vals:Nat→Value) :
  Fri ops (λt=>a.tmps.getD t undef) N (Array.replicate ops.size false) a vals:=by
 refine ⟨hN,hd,λt=>?_⟩
 have:∀ n,lkW ops (Array.replicate ops.size false) t n=none:=by
  intro n
  induction n with
  | zero=>rfl
  | succ k ih =>
   simp only [lkW,ih]
   rw [if_neg]
   rintro ⟨_,h⟩
   simp only [Array.getD_eq_getD_getElem?,Array.getElem?_replicate] at h
   split at h<;>simp at h
 rw [this];rfl
theorem HS{P:Program}{N:Nat}{ops:Array Oper}{draw:Bool}{live:List Nat}{et:ET}(h:HT P N ops draw live=some et)(hm:P.follows .mixedOrders=true){K:Env→Mem→Prop}{w:World}{a:Act}{Q:Exit→Act→World→Prop}{id:Nat}(hN:a.tmps.size=N)(hdf:a.defers=[])(hQ:∀ a' w' L',jg w w'→a'.tmps.size=N→a'.defers=[]→(∀ p∈L',a'.tmps.getD p.1 undef=p.2)→K L' (qO w')→Q .normal a' w')(het:etP P (λt=>a.tmps.getD t undef) et [] (qO w) K):(Code.region id ops draw).wp P Q a w:=by
 unfold HT at h
 obtain ⟨nd,hnd,h⟩:=Option.bind_eq_some_iff.1 h
 split at h
 case isFalse=>cases h
 rename_i hdst
 have houts:∀ p∈live.map λt=>(t,src ops ops.size (.tmp t)),p.2=src ops ops.size (.tmp p.1):=λp hp=>by
  obtain ⟨t,_,rfl⟩:=List.mem_map.1 hp;rfl
 cases draw with
 | true =>
  simp only [if_true] at h
  split at h
  case isFalse=>cases h
  rename_i hc
  simp only [Option.some.injEq] at h
  subst h
  simp only [Bool.and_eq_true] at hc
  obtain ⟨hback,hap⟩:=hc
  have ok:=MF (P:=P) (N:=N) (tp:=tps ops.toList []) hnd hdst (λi j oi oj hij hi hj=>by
   have hj':j < ops.size:=(Array.getElem?_eq_some_iff.1 hj).1
   have:=List.all_eq_true.1 (List.all_eq_true.1 hap j (by simpa using hj')) i (by simpa using hij)
   simp only [hi,hj,Bool.or_eq_true] at this
   exact this)
  have dr:qQz ops (tps ops.toList []):=by
   constructor
   ·intro i o ho e he hb
    have hi:i < ops.size:=(Array.getElem?_eq_some_iff.1 ho).1
    have:=List.all_eq_true.1 hback i (by simpa using hi)
    simp only [ho] at this
    have:=List.all_eq_true.1 this e (by simpa using he)
    simpa [hb] using this
   ·intro i o ho k hk
    have h1:=qzm ops.toList [] i o (by simpa using ho)
    simp only [List.length_nil,Nat.zero_add] at h1
    rw [h1] at hk
    rcases Bm _ _ hk with h2 | ⟨e,he,hb,h2⟩
    ·simp at h2
    ·refine ⟨e,by simpa using he,hb,h2.imp (λh=>h) λh3=>?_⟩
     rw [List.getD_eq_getElem?_getD,List.getElem?_take] at h3
     split at h3
     ·rw [List.getD_eq_getElem?_getD];exact h3
     ·simp at h3
  refine wp_region_any hm ?_
  have c0:Can ops (λt=>a.tmps.getD t undef) (tps ops.toList []) 0 [] (λ_=>undef):=⟨λi hi=>by simp at hi,λi hi=>by simp at hi,λi x hi=>by simp at hi⟩
  obtain ⟨f',D',σ',vals',c',hq',het',_,hn'⟩:=advance ok _ 0 [] (λ_=>undef) (qO w) c0 het
  refine sim ok dr houts (w0:=w) hQ ops.size _ a _ f' D' σ' vals' ⟨List.range ops.size,by simp,λi hi _=>by simpa using hi⟩ (Gu w _ (Nat.le_succ _)) ?_ het'
  have hlist:∀ i,(Array.replicate ops.size false).getD i false=false:=λi=>by
   simp only [Array.getD_eq_getD_getElem?,Array.getElem?_replicate]
   split<;>rfl
  refine ⟨c',hq',by simp,(λj hj=>by rw [hlist] at hj;cases hj),(λj hj=>by rw [hlist] at hj;cases hj),λi hi hD _=>?_,λi hi hD _=>?_,qqp hN hdf vals'⟩
  ·rcases hn' i hD with h0 | hqf
   ·simp at h0
   ·obtain ⟨d,hd,hndo⟩:=ok.hnd i hi
    obtain ⟨o,ro,xl,g,ho,hr,_,_,hde⟩:=WY hndo
    rw [List.getD_eq_getElem?_getD,ok.hqt i d hi hd,hde]
    simpa using (hqf o ro xl ho hr).1
  ·rcases hn' i hD with h0 | hqf
   ·simp at h0
   ·exact hqf
 | false =>
  simp only [Bool.false_eq_true,if_false,Option.some.injEq] at h
  subst h
  let tp:=(List.range ops.size).map λi=>2 ^ i - 1
  have htp:∀ j,j < ops.size→tp.getD j 0=2 ^ j - 1:=λj hj=>by
   simp only [tp,List.getD_eq_getElem?_getD,List.getElem?_map,List.getElem?_range hj];rfl
  have ok:=MF (P:=P) (N:=N) (tp:=tp) hnd hdst (λi j oi oj hij hi hj=>.inl (by
   have hj':j < ops.size:=(Array.getElem?_eq_some_iff.1 hj).1
   rw [htp j hj',xB];simpa using hij))
  refine wp_region_list ?_
  have c0:Can ops (λt=>a.tmps.getD t undef) tp (2 ^ 0 - 1) [] (λ_=>undef):=⟨λi hi=>by simp at hi,λi hi=>by simp at hi,λi x hi=>by simp at hi⟩
  have:=qvy ok (λi hi k hk=>by rw [htp i hi,xB] at hk;simpa using hk) houts (w0:=w) hQ ops.size 0 a w [] (λ_=>undef) (by simp) (by
   have:=(mapM_some hnd).1;simpa using this) (jg.nB w) hN hdf c0 (λt=>rfl) (by simpa using het)
  simpa using this
def X.used:X→List Nat
 | .qq t=>[t]
 | _=>[]
def Ev:Gd→List Nat
 | some (x,_)=>x.used
 | none=>[]
def gJ(l:List X):List Nat:=l.flatMap X.used
def ET.used:ET→List Nat
 | .out outs=>outs.flatMap λp=>p.2.used
 | .fail | .tt=>[]
 | .q _ _ args g k=>gJ args++Ev g++k.used
 | .x _ _ args g rc k=>gJ args++Ev g++(rc.flatMap λr=>gJ r.2.2.1++Ev r.2.2.2)++k.used
 | .both a b=>a.used++b.used
section congr
variable {L L':Nat→Value}
theorem EQ{x:X}(h:∀ t∈x.used,L t=L' t)(σ:Env):x.ev L σ=x.ev L' σ:=by
 cases x<;>first | rfl | exact h _ (List.mem_singleton.2 rfl)
theorem cr{l:List X}(h:∀ t∈gJ l,L t=L' t)(σ:Env):l.map (X.ev L σ)=l.map (X.ev L' σ) :=
 List.map_congr_left λx hx=>EQ (λt ht=>h t (List.mem_flatMap.2 ⟨x,hx,ht⟩)) σ
theorem Ew{g:Gd}(h:∀ t∈Ev g,L t=L' t){σ:Env}{y n y' n':Prop}(hy:y→y')(hn:n→n')(hh:gP L σ g y n):gP L' σ g y' n':=by
 cases g with
 | none=>exact hy hh
 | some xw =>
  obtain ⟨x,w⟩:=xw
  simp only [gP] at hh ⊢
  rw [EQ (L:=L) (L':=L') h σ] at hh
  exact ⟨λe=>hy (hh.1 e),λe=>hn (hh.2 e)⟩
theorem GC{σ:Env}{m:Mem}:∀ {l:List (Nat×RO×List X×Gd)},(∀ t∈l.flatMap (λr=>gJ r.2.2.1++Ev r.2.2.2),L t=L' t)→rcP L σ m l→rcP L' σ m l
 | [],_,h=>h
 | (i,ro,args,g)::r,hu,h=>by
  simp only [List.flatMap_cons,List.mem_append] at hu
  simp only [rcP] at h ⊢
  rw [cr (L:=L) (L':=L') (λt ht=>hu t (.inl (.inl ht))) σ] at h
  exact ⟨Ew (λt ht=>hu t (.inl (.inr ht))) (λh=>h) (λh=>h) h.1,GC (λt ht=>hu t (.inr ht)) h.2⟩
section
variable {K K':Value→Mem→Prop} {m:Mem} (hk:∀ v m,K v m→K' v m)
include hk
theorem qvx{A:Prop}{o:Option Mem}{v:Value}(h:A∧∃ m',o=some m'∧K v m'):A∧∃ m',o=some m'∧K' v m':=⟨h.1,h.2.elim λm' h2=>⟨m',h2.1,hk _ _ h2.2⟩⟩
theorem qjM{ag:Bool}{ks:List LK}{r:Option Nat}{k v:Value}(h:∃ b,r=some b∧qZB ag ks m K b k v):∃ b,r=some b∧qZB ag ks m K' b k v:=by
 obtain ⟨b,e,h1,es,cl,hm,o,hf,h⟩:=h
 refine ⟨b,e,h1,es,cl,hm,o,hf,?_⟩
 revert h
 cases o with
 | none=>exact hk _ _
 | some iv=>exact hk _ _
theorem qxA{ag:Bool}{ks:List LK}{r:Option Nat}{k:Value}(h:qJY ag ks m K k r):qJY ag ks m K' k r:=by
 cases r with
 | none=>exact ⟨h.1,hk _ _ h.2⟩
 | some r =>
  obtain ⟨h1,es,cl,hm,o,hf,h⟩:=h
  refine ⟨h1,es,cl,hm,o,hf,?_⟩
  revert h
  cases o with
  | none=>exact hk _ _
  | some iv=>exact hk _ _
theorem qxN{zero:List Value}{a:Option Addr}{n c:Nat}(h:qyW zero m K a n c):qyW zero m K' a n c:=by
 cases a with
 | none=>exact hk _ _ h
 | some a=>obtain ⟨m',e,h⟩:=h;exact ⟨m',e,hk _ _ h⟩
theorem qjN{a:Option Addr}{n c:Nat}(h:qZC m K a n c):qZC m K' a n c:=by
 cases a with
 | none=>exact h
 | some a=>obtain ⟨arr,t,fr,h1,h2,h3⟩:=h;exact ⟨arr,t,fr,h1,h2,hk _ _ h3⟩
theorem qqN{r:Option Nat}(h:qxM m K r):qxM m K' r:=by
 cases r with
 | none=>exact hk _ _ h
 | some r=>obtain ⟨es,cl,hm,h⟩:=h;exact ⟨es,cl,hm,hk _ _ h⟩
theorem qjZ{r:Option Nat}(h:qQM m K r):qQM m K' r:=by
 cases r with
 | none=>exact λb hb=>hk _ _ (h b hb)
 | some r=>obtain ⟨es,cl,hm,h⟩:=h;exact ⟨es,cl,hm,λb hb=>hk _ _ (h b hb)⟩
theorem qjF{a:Addr}(h:qwz m K a):qwz m K' a:=by
 obtain ⟨h0,r,s,se,l,hm,h⟩:=h
 refine ⟨h0,r,s,se,l,hm,?_⟩
 revert h
 cases r with
 | none=>exact hk _ _
 | some b=>exact λ⟨es,cl,h1,h2,h3,h4⟩=>⟨es,cl,h1,h2,λh=>hk _ _ (h3 h),λe he hs=>hk _ _ (h4 e he hs)⟩
end
theorem qkf{P:Program}{ro:RO}{args:List Value}{m:Mem}{K K':Value→Mem→Prop}(hk:∀ v m,K v m→K' v m)(h:xs P ro args m K):xs P ro args m K':=by
  unfold xs at *
  split at h<;>first
    | exact h.elim
    | (first
         | exact MC.mono h hk
         | exact λb hb=>hk _ _ (h b hb)
         | exact Yb (λ_ _ _=>qjN hk) h
         | exact Yb (λ_ _ _ h=>IT (λ_ ⟨h0,h1,h2⟩=>⟨h0,h1,tu hk h2⟩) h) h
         | (obtain ⟨l,hl,h⟩:=h;exact ⟨l,hl,λb hb=>hk _ _ (h b hb)⟩)
         | exact Th (λa=>qvx hk) h
         | exact IT (λn=>IT λc ⟨h0,h1,h2,h3,h4⟩=>⟨h0,h1,h2,h3,λb hb=>hk _ _ (h4 b hb)⟩) h
         | (refine Yb (λbase n cap=>Yb λb k c hh=>?_) h;obtain ⟨news,e,hh⟩:=hh;exact ⟨news,e,tu hk hh⟩)
         | exact Yb (λbase n cap=>SM λs h=>tu hk h) h
         | (refine Yb (λbase n cap=>Yb λb k c hh=>?_) h;obtain ⟨cells,e,hh⟩:=hh;refine ⟨cells,e,?_⟩
            cases base with
            | none=>exact hk _ _ hh
            | some a=>obtain ⟨m',e',h'⟩:=hh;exact ⟨m',e',hk _ _ h'⟩)
         | exact qws (λf a c h=>⟨h.1,MC.mono h.2 hk⟩) h
         | exact Bx (λr=>qjM hk) h
         | exact Bx (λr=>qxA hk) h
         | exact Yb (λa n c=>qxN hk) h
         | exact Bx (λr=>qqN hk) h
         | exact Bx (λr=>qjZ hk) h
         | exact Th (λa=>qjF hk) h
         | exact SM (λs h c b hc hb=>hk _ _ (h c b hc hb)) h)
theorem XB{P:Program}{K:Env→Mem→Prop}:∀ (et:ET) (σ:Env) (m:Mem),(∀ t∈et.used,L t=L' t)→etP P L et σ m K→etP P L' et σ m K
 | .out outs,σ,m,hu,h=>by
  simp only [etP] at h ⊢
  have:(outs.map λp=>(p.1,p.2.ev L σ))=outs.map λp=>(p.1,p.2.ev L' σ):=List.map_congr_left λp hp=>by
   rw [EQ (L:=L) (L':=L') (λt ht=>hu t (List.mem_flatMap.2 ⟨p,hp,ht⟩)) σ]
  rw [this] at h;exact h
 | .fail,_,_,_,h=>h
 | .tt,_,_,_,h=>h
 | .q i ro args g k,σ,m,hu,h=>by
  simp only [ET.used,List.mem_append] at hu
  simp only [etP] at h ⊢
  rw [cr (L:=L) (L':=L') (λt ht=>hu t (.inl (.inl ht))) σ] at h
  refine Ew (λt ht=>hu t (.inl (.inr ht))) ?_ ?_ h
  ·rintro ⟨v,hv,hk⟩;exact ⟨v,hv,XB k _ m (λt ht=>hu t (.inr ht)) hk⟩
  ·exact XB k _ m (λt ht=>hu t (.inr ht))
 | .x i ro args g rc k,σ,m,hu,h=>by
  simp only [ET.used,List.mem_append] at hu
  simp only [etP] at h ⊢
  rw [cr (L:=L) (L':=L') (λt ht=>hu t (.inl (.inl (.inl ht)))) σ] at h
  refine Ew (λt ht=>hu t (.inl (.inl (.inr ht)))) ?_ ?_ h
  ·exact qkf λv m' ⟨h1,h2⟩=>⟨GC (λt ht=>hu t (.inl (.inr ht))) h1,XB k _ m' (λt ht=>hu t (.inr ht)) h2⟩
  ·exact XB k _ m (λt ht=>hu t (.inr ht))
 | .both a b,σ,m,hu,h=>by
  simp only [ET.used,List.mem_append] at hu
  exact ⟨XB a σ m (λt ht=>hu t (.inl ht)) h.1,XB b σ m (λt ht=>hu t (.inr ht)) h.2⟩
end congr
end Go.Fw
namespace Go.Fw
inductive NC where
 | skip
 | reg (et:ET) (ins:List Nat)
 | seq (a b:NC)
 | cond (x:X) (a b:NC)
 | block (id:Nat) (c:NC)
 | loop (ks:List Nat) (c:NC)
 | exit (id:Nat)
 | ret
 deriving Inhabited
def SG(t:Nat):List Nat→List Nat
 | []=>[t]
 | u::r=>if t < u then t::u::r else if t=u then u::r else u::SG t r
def unS(a b:List Nat):List Nat:=a.foldl (λs t=>SG t s) b
def delS(t:Nat)(l:List Nat):List Nat:=l.filter (· != t)
def tmpsOf(l:List Operand):List Nat:=l.filterMap fun | .tmp t=>some t | _=>none
def qZr(ops:Array Oper)(o:Oper)(lo:List Nat):List Nat :=
 unS (o.looksAt ops) (match o.dst with | some d=>delS d lo | none=>lo)
def cB(rets:List Nat):Code→List Nat→List (Nat×List Nat)→List Nat
 | .skip,lo,_=>lo
 | .region _ ops _,lo,_=>ops.toList.foldr (qZr ops) lo
 | .seq a b,lo,ex=>cB rets a (cB rets b lo ex) ex
 | .cond c a b,lo,ex=>unS (tmpsOf [c]) (unS (cB rets a lo ex) (cB rets b lo ex))
 | .block id c,lo,ex=>cB rets c lo ((id,lo)::ex)
 | .loop c,_,ex=>cB rets c [] ex
 | .exit id,_,ex=>(ex.lookup id).getD []
 | .ret,_,_=>rets
 | _,lo,_=>lo
def comp(P:Program)(N:Nat)(rets:List Nat):Code→List Nat→List (Nat×List Nat)→Option (NC×List Nat)
 | .skip,lo,_=>some (.skip,lo)
 | .region _ ops draw,lo,_=>(HT P N ops draw lo).map λet=>(.reg et (unS et.used []),unS et.used [])
 | .seq a b,lo,ex=>(comp P N rets b lo ex).bind λrb=>(comp P N rets a rb.2 ex).map λra=>(.seq ra.1 rb.1,ra.2)
 | .cond c a b,lo,ex=>(comp P N rets a lo ex).bind λra=>(comp P N rets b lo ex).bind λrb =>
  match c with
  | .tmp t=>some (.cond (.qq t) ra.1 rb.1,SG t (unS ra.2 rb.2))
  | .const v=>some (.cond (.const v) ra.1 rb.1,unS ra.2 rb.2)
  | _=>none
 | .block id c,lo,ex=>(comp P N rets c lo ((id,lo)::ex)).map λrc=>(.block id rc.1,rc.2)
 | .loop c,_,ex=>(comp P N rets c (cB rets c [] ex) ex).map λrc=>(.loop (cB rets c [] ex) rc.1,cB rets c [] ex)
 | .exit id,_,ex=>some (.exit id,(ex.lookup id).getD [])
 | .ret,_,_=>some (.ret,rets)
 | _,_,_=>none
def jb(L:Env)(ks:List Nat):Bool:=ks.all L.has
def only(L:Env)(ks:List Nat):Env:=ks.map λk=>(k,L.get k)
def Mn(next:Env→Mem→Prop)(Q:Exit→Env→Mem→Prop):Exit→Env→Mem→Prop
 | .normal,L,m=>next L m
 | e,L,m=>Q e L m
def aI(id:Nat)(Q:Exit→Env→Mem→Prop):Exit→Env→Mem→Prop
 | .exit id',L,m=>if id'=id then Q .normal L m else Q (.exit id') L m
 | e,L,m=>Q e L m
def BD(ks:List Nat)(I:Nat→Env→Mem→Prop)(n:Nat)(Q:Exit→Env→Mem→Prop):Exit→Env→Mem→Prop
 | .normal,L,m=>jb L ks=true∧∃ n',n' < n∧I n' (only L ks) m
 | e,L,m=>Q e L m
def bP(t:Bool)(A B:Prop):Prop:=(t=true→A)∧(t=false→B)
def TN(v:Value)(A B:Prop):Prop:=∃ t,v=.bool t∧bP t A B
def loopP(ks:List Nat)(body:(Exit→Env→Mem→Prop)→Env→Mem→Prop)(Q:Exit→Env→Mem→Prop)(L:Env)(m:Mem):Prop :=
 jb L ks=true∧∃ I:Nat→Env→Mem→Prop,(∃ n,I n (only L ks) m)∧∀ n L m,I n L m→body (BD ks I n Q) L m
def wpN(P:Program):NC→(Exit→Env→Mem→Prop)→Env→Mem→Prop
 | .skip,Q,L,m=>Q .normal L m
 | .reg et ins,Q,L,m=>jb L ins=true∧etP P L.get et [] m λL' m'=>Q .normal L' m'
 | .seq a b,Q,L,m=>wpN P a (Mn (wpN P b Q) Q) L m
 | .cond x a b,Q,L,m=>jb L x.used=true∧TN (x.ev L.get []) (wpN P a Q L m) (wpN P b Q L m)
 | .block id c,Q,L,m=>wpN P c (aI id Q) L m
 | .loop ks c,Q,L,m=>loopP ks (wpN P c) Q L m
 | .exit id,Q,L,m=>Q (.exit id) L m
 | .ret,Q,L,m=>Q .ret L m
def Hg(a:Act)(L:Env):Prop:=∀ t,L.has t=true→a.tmps.getD t undef=L.get t
theorem tT{a:Act}{L:Env}(h:∀ p∈L,a.tmps.getD p.1 undef=p.2):Hg a L:=by
 induction L with
 | nil=>intro t ht;simp [Env.has] at ht
 | cons p r ih =>
  obtain ⟨j,v⟩:=p
  intro t ht
  simp only [Env.get]
  by_cases e:t=j
  ·subst e;rw [if_pos rfl];exact h _ (List.mem_cons_self ..)
  ·rw [if_neg e]
   simp only [Env.has,Bool.or_eq_true,beq_iff_eq,e,false_or] at ht
   exact ih (λp hp=>h p (List.mem_cons_of_mem _ hp)) t ht
theorem DT{a:Act}{L:Env}{ks:List Nat}(h:Hg a L)(hk:jb L ks=true):Hg a (only L ks):=by
 apply tT
 intro p hp
 obtain ⟨k,hk',rfl⟩:=List.mem_map.1 hp
 exact h k (List.all_eq_true.1 hk k hk')
def QQ(N:Nat)(w0:World)(Q:Exit→Env→Mem→Prop)(e:Exit)(a:Act)(w:World):Prop :=
 a.tmps.size=N∧a.defers=[]∧jg w0 w∧∃ L,Hg a L∧Q e L (qO w)
theorem Nc{t u:Nat}:∀ {l:List Nat},u∈SG t l↔u=t∨u∈l
 | []=>by simp [SG]
 | x::r=>by
  simp only [SG]
  split
  ·simp
  ·split
   ·rename_i h;subst h;simp
   ·simp only [List.mem_cons,Nc (l:=r)]
    constructor
    ·rintro (h | h | h)<;>simp [h]
    ·rintro (h | h | h)<;>simp [h]
theorem Tm{u:Nat}:∀ {a b:List Nat},u∈unS a b↔u∈a∨u∈b
 | [],b=>by simp [unS]
 | x::r,b=>by
  have:=Tm (u:=u) (a:=r) (b:=SG x b)
  simp only [unS,List.foldl_cons] at this ⊢
  rw [this,Nc]
  simp only [List.mem_cons]
  constructor
  ·rintro (h | h | h)<;>simp [h]
  ·rintro ((h | h) | h)<;>simp [h]
theorem Sy{P:Program}{N:Nat}{rets:List Nat}(hm:P.follows .mixedOrders=true):∀ (c:Code) (lo:List Nat) (ex:List (Nat×List Nat)) (nc:NC) (li:List Nat),
  comp P N rets c lo ex=some (nc,li)→∀ (Q:Exit→Env→Mem→Prop) (w0 w:World) (a:Act) (L:Env),a.tmps.size=N→a.defers=[]→jg w0 w→Hg a L→wpN P nc Q L (qO w)→c.wp P (QQ N w0 Q) a w:=by
 intro c
 induction c with
 | skip =>
  intro lo ex nc li h Q w0 w a L hN hd hs hk hw
  simp only [comp,Option.some.injEq,Prod.mk.injEq] at h
  obtain ⟨rfl,rfl⟩:=h
  exact wp_skip ⟨hN,hd,hs,L,hk,hw⟩
 | region id ops draw =>
  intro lo ex nc li h Q w0 w a L hN hd hs hk hw
  simp only [comp] at h
  obtain ⟨et,het,h⟩:=Option.map_eq_some_iff.1 h
  obtain ⟨rfl,rfl⟩:=Prod.mk.injEq ..▸h
  obtain ⟨hins,hw⟩:=hw
  refine HS het hm (K:=λL' m'=>Q .normal L' m') hN hd (λa' w' L' hs' hN' hd' hp hK=>⟨hN',hd',hs.trans hs',L',tT hp,hK⟩) ?_
  refine XB et [] (qO w) (λt ht=>?_) hw
  have:=List.all_eq_true.1 hins t (Tm.2 (.inl ht))
  exact (hk t this).symm
 | seq x y ihx ihy =>
  intro lo ex nc li h Q w0 w a L hN hd hs hk hw
  simp only [comp] at h
  obtain ⟨⟨nb,lb⟩,hb,h⟩:=Option.bind_eq_some_iff.1 h
  obtain ⟨⟨na,la⟩,ha,h⟩:=Option.map_eq_some_iff.1 h
  obtain ⟨rfl,rfl⟩:=Prod.mk.injEq ..▸h
  refine wp_seq (wp_mono (ihx _ _ _ _ ha _ w0 w a L hN hd hs hk hw) ?_)
  intro e a' w' ⟨hN',hd',hs',L',hk',hq⟩
  cases e with
  | normal=>exact ihy _ _ _ _ hb Q w0 w' a' L' hN' hd' hs' hk' hq
  | _=>exact ⟨hN',hd',hs',L',hk',hq⟩
 | cond c x y ihx ihy =>
  intro lo ex nc li h Q w0 w a L hN hd hs hk hw
  simp only [comp] at h
  obtain ⟨⟨na,la⟩,ha,h⟩:=Option.bind_eq_some_iff.1 h
  obtain ⟨⟨nb,lb⟩,hb,h⟩:=Option.bind_eq_some_iff.1 h
  have key:∀ xx:X,jb L xx.used=true→TN (xx.ev L.get []) (wpN P na Q L (qO w)) (wpN P nb Q L (qO w))→a.eval c=xx.ev L.get []→(Code.cond c x y).wp P (QQ N w0 Q) a w:=by
   rintro xx - ⟨t,ht,hb'⟩ he
   refine wp_cond_split (t:=t) (he.trans ht) (λe=>?_) (λe=>?_)
   ·exact ihx _ _ _ _ ha Q w0 w a L hN hd hs hk (hb'.1 e)
   ·exact ihy _ _ _ _ hb Q w0 w a L hN hd hs hk (hb'.2 e)
  cases c with
  | tmp t =>
   simp only [Option.some.injEq,Prod.mk.injEq] at h
   obtain ⟨rfl,rfl⟩:=h
   refine key _ hw.1 hw.2 ?_
   have h1:L.has t=true:=List.all_eq_true.1 hw.1 t (by simp [X.used])
   exact hk t h1
  | const v =>
   simp only [Option.some.injEq,Prod.mk.injEq] at h
   obtain ⟨rfl,rfl⟩:=h
   exact key _ hw.1 hw.2 rfl
  | global g=>simp at h
  | func g=>simp at h
 | block id x ih =>
  intro lo ex nc li h Q w0 w a L hN hd hs hk hw
  simp only [comp] at h
  obtain ⟨⟨na,la⟩,ha,h⟩:=Option.map_eq_some_iff.1 h
  obtain ⟨rfl,rfl⟩:=Prod.mk.injEq ..▸h
  refine wp_block (wp_mono (ih _ _ _ _ ha _ w0 w a L hN hd hs hk hw) ?_)
  intro e a' w' ⟨hN',hd',hs',L',hk',hq⟩
  cases e with
  | exit id' =>
   simp only [aI] at hq
   simp only [Exit.inBlock]
   split
   ·rename_i e;rw [if_pos e] at hq;exact ⟨hN',hd',hs',L',hk',hq⟩
   ·rename_i e;rw [if_neg e] at hq;exact ⟨hN',hd',hs',L',hk',hq⟩
  | _=>exact ⟨hN',hd',hs',L',hk',hq⟩
 | loop x ih =>
  intro lo ex nc li h Q w0 w a L hN hd hs hk hw
  simp only [comp] at h
  obtain ⟨⟨na,la⟩,ha,h⟩:=Option.map_eq_some_iff.1 h
  obtain ⟨rfl,rfl⟩:=Prod.mk.injEq ..▸h
  obtain ⟨hall,I,⟨n0,hI0⟩,hround⟩:=hw
  refine wp_loop_ghost (λn a w=>a.tmps.size=N∧a.defers=[]∧jg w0 w∧∃ L,Hg a L∧I n L (qO w)) n0 ⟨hN,hd,hs,_,DT hk hall,hI0⟩ ?_
  rintro n a1 w1 ⟨hN1,hd1,hs1,L1,hk1,hI1⟩
  refine wp_mono (ih _ _ _ _ ha _ w0 w1 a1 L1 hN1 hd1 hs1 hk1 (hround n L1 _ hI1)) ?_
  intro e a' w' ⟨hN',hd',hs',L',hk',hq⟩
  cases e with
  | normal =>
   obtain ⟨hall',n',hlt,hI'⟩:=hq
   exact ⟨n',hlt,hN',hd',hs',_,DT hk' hall',hI'⟩
  | _=>exact ⟨hN',hd',hs',L',hk',hq⟩
 | exit id =>
  intro lo ex nc li h Q w0 w a L hN hd hs hk hw
  simp only [comp,Option.some.injEq,Prod.mk.injEq] at h
  obtain ⟨rfl,rfl⟩:=h
  exact wp_exit ⟨hN,hd,hs,L,hk,hw⟩
 | ret =>
  intro lo ex nc li h Q w0 w a L hN hd hs hk hw
  simp only [comp,Option.some.injEq,Prod.mk.injEq] at h
  obtain ⟨rfl,rfl⟩:=h
  exact wp_ret ⟨hN,hd,hs,L,hk,hw⟩
 | _=>intro lo ex nc li h;simp [comp] at h
inductive RV where
 | qq (t:Nat)
 | cell (t:Nat)
 | cells (t n:Nat)
 deriving Inhabited
def RV.jI:RV→Nat
 | .qq t | .cell t | .cells t _=>t
def UL(P:Program):ResultVar→Option RV
 | .tmp t=>some (.qq t)
 | .cell a t=>if QO P t then some (.cell a) else if Qd P t then (P.info? t).map λi=>.cells a i.size else none
def RV.val(L:Env)(m:Mem):RV→Option Value
 | .qq t=>some (L.get t)
 | .cell t=>rd .ld [L.get t] m
 | .cells t n=>rd (.lda n) [L.get t] m
def Qh(L:Env)(m:Mem):List RV→Option (List Value)
 | []=>some []
 | r::l=>(r.val L m).bind λv=>(Qh L m l).map (v::·)
def WZ:List Value→Value
 | [v]=>v
 | l=>.tuple l.toArray
def lC:Nat→List Value→Env
 | _,[]=>[]
 | i,v::r=>(i,v)::lC (i+1) r
def vB(rvs:List RV)(R:Value→Mem→Prop):Exit→Env→Mem→Prop
 | .normal,L,m | .ret,L,m=>jb L (rvs.map RV.jI)=true∧∃ vs,Qh L m rvs=some vs∧R (WZ vs) m
 | _,_,_=>False
structure FN where
 code:NC
 rvs:List RV
 deriving Inhabited
def TO(P:Program)(fn:Func):Option FN :=
 (fn.results.toList.mapM (UL P)).bind λrvs=>(fn.body).bind λc =>
  (comp P fn.ntmps (unS (rvs.map RV.jI) []) c (unS (rvs.map RV.jI) []) []).map λr=>⟨r.1,rvs⟩
theorem MQ:∀ (l:List Value) (i t:Nat),(lC i l).has t=true→i≤t∧l[t - i]?=some ((lC i l).get t)
 | [],i,t,h=>by simp [lC,Env.has] at h
 | v::r,i,t,h=>by
  simp only [lC,Env.has,Bool.or_eq_true,beq_iff_eq] at h
  simp only [lC,Env.get]
  by_cases e:t=i
  ·subst e;simp
  ·rw [if_neg e]
   have:=MQ r (i+1) t (h.resolve_left e)
   refine ⟨by omega,?_⟩
   rw [show t - i=(t - (i+1))+1 from by omega,List.getElem?_cons_succ]
   exact this.2
def TJ(tmps:Array Value):ResultVar→Sem Value
 | .tmp t=>pure (tmps.getD t undef)
 | .cell a t=>do loadVar t (← asAddr (tmps.getD a undef))
theorem qQL{P:Program}{rv:ResultVar}{r:RV}(h:UL P rv=some r){tmps:Array Value}{L:Env}{w:World}(hk:L.has r.jI=true→tmps.getD r.jI undef=L.get r.jI)(hh:L.has r.jI=true){v:Value}(hv:r.val L (qO w)=some v) :
  (TJ tmps rv).run P w=.ok v w:=by
 unfold TJ
 cases rv with
 | tmp t =>
  simp only [UL,Option.some.injEq] at h;subst h
  simp only [RV.val,Option.some.injEq] at hv;subst hv
  simp only [RV.jI] at hk hh
  simp [hk hh]
 | cell a t =>
  simp only [UL] at h
  split at h
  ·rename_i hp
   simp only [Option.some.injEq] at h;subst h
   simp only [RV.jI] at hk hh
   obtain ⟨ad,hx,e⟩:=ci hv
   simp [hk hh,hx,asAddr,loadVar,ff hp,aD (m:=qO w) rfl e,-run_load]
  ·split at h
   ·rename_i hp
    obtain ⟨i,hi,rfl⟩:=Option.map_eq_some_iff.1 h
    simp only [RV.jI] at hk hh
    obtain ⟨ad,hx,e⟩:=ci hv
    obtain ⟨l,hl,rfl⟩:=Option.map_eq_some_iff.1 e
    simp [hk hh,hx,asAddr,loadVar,sm hp,qo hi,loadCells,run_loadCellsFrom (m:=qO w) rfl ad _ _ _ _ hl]
   ·cases h
theorem TK{P:Program}{tmps:Array Value}{L:Env}{w:World}:∀ (rs:List ResultVar) (rvs:List RV),rs.mapM (UL P)=some rvs→(∀ t,L.has t=true→tmps.getD t undef=L.get t)→jb L (rvs.map RV.jI)=true →
  ∀ vs,Qh L (qO w) rvs=some vs→(rs.mapM (TJ tmps)).run P w=.ok vs w
 | [],rvs,h,_,_,vs,hv=>by
  simp only [List.mapM_nil,pure,Option.some.injEq] at h;subst h
  simp only [Qh,Option.some.injEq] at hv;subst hv
  rfl
 | rv::rs,rvs,h,hk,hh,vs,hv=>by
  simp only [List.mapM_cons,bind,pure,Option.bind_eq_some_iff,Option.some.injEq] at h
  obtain ⟨r,hr,l,hl,rfl⟩:=h
  simp only [Qh] at hv
  obtain ⟨v,hv1,hv⟩:=Option.bind_eq_some_iff.1 hv
  obtain ⟨vs',hv2,rfl⟩:=Option.map_eq_some_iff.1 hv
  simp only [jb,List.map_cons,List.all_cons,Bool.and_eq_true] at hh
  have h1:=qQL hr (tmps:=tmps) (hk r.jI) hh.1 hv1
  have h2:=TK rs l hl hk hh.2 vs' hv2
  simp only [List.mapM_cons,Sem.run_bind,h1,Result.andThen_ok,h2,Sem.run_pure]
theorem tG{P:Program}{fn:Func}{rvs:List RV}(h:fn.results.toList.mapM (UL P)=some rvs){tmps:Array Value}{L:Env}{w:World}(hk:∀ t,L.has t=true→tmps.getD t undef=L.get t)(hh:jb L (rvs.map RV.jI)=true){vs:List Value}(hv:Qh L (qO w) rvs=some vs):(results fn tmps).run P w=.ok (WZ vs) w:=by
 have hres:results fn tmps=(do let vs ← fn.results.mapM (TJ tmps);pure (if h:vs.size=1 then vs[0] else .tuple vs)):=rfl
 rw [hres]
 have:=TK (P:=P) (w:=w) fn.results.toList rvs h hk hh vs hv
 rw [Array.mapM_eq_mapM_toList]
 simp only [Sem.run_bind,Sem.run_map,this,Result.andThen_ok,Sem.run_pure]
 congr 1
 match vs with
 | []=>rfl
 | [v]=>rfl
 | v::u::r=>simp [WZ]
theorem MC_of{P:Program}{f:Nat}{fn:Func}{F:FN}(hf:P.funcs[f]?=some fn)(hc:TO P fn=some F)(hm:P.follows .mixedOrders=true){args:List Value}{m:Mem}{R:Value→Mem→Prop}(hn:args.length≤fn.ntmps)(h:wpN P F.code (vB F.rvs R) (lC 0 args) m):MC P f args m R:=by
 unfold TO at hc
 obtain ⟨rvs,hrv,hc⟩:=Option.bind_eq_some_iff.1 hc
 obtain ⟨c,hb,hc⟩:=Option.bind_eq_some_iff.1 hc
 obtain ⟨⟨nc,li⟩,hcomp,rfl⟩:=Option.map_eq_some_iff.1 hc
 intro w hw
 subst hw
 refine calls_of_wp hf hb ?_
 refine wp_mono (Sy hm c _ _ nc li hcomp _ w w _ (lC 0 args) ?_ rfl (jg.nB w) ?_ h) ?_
 ·simp;omega
 ·intro t ht
  obtain ⟨_,h1⟩:=MQ args 0 t ht
  have hlt:t < args.length:=(List.getElem?_eq_some_iff.1 h1).1
  simp only [Nat.sub_zero] at h1
  simp only [Array.getD_eq_getD_getElem?]
  rw [Array.getElem?_append_left (by simpa using hlt)]
  simp [h1]
 ·intro e a' w' ⟨hN',hd',hs',L',hk',hq⟩
  cases e with
  | normal =>
   obtain ⟨hh,vs,hv,hR⟩:=hq
   exact ⟨hd',_,tG hrv hk' hh hv,_,rfl,hs',hR⟩
  | ret =>
   obtain ⟨hh,vs,hv,hR⟩:=hq
   exact ⟨hd',_,tG hrv hk' hh hv,_,rfl,hs',hR⟩
  | _=>exact hq.elim
end Go.Fw
