import Derived.Test.YtimedjfpihdffaaGreatFv
import Derived.IntWalk
import Derived.KernelRfl
set_option linter.unusedVariables false
set_option linter.unusedSimpArgs false
set_option maxHeartbeats 16000000
namespace Go.Fw
universe u
section
variable {P:Program} {L:Nat→Value} {E:Env} {σ:Env} {m:Mem} {K:Env→Mem→Prop} {Q:Exit→Env→Mem→Prop}
structure Lk {α:Sort u} (a:α):Type where
 mk ::
def bO (o:Option Value) (K:Value→Prop) (_:Lk K):Prop:=TQ o K
theorem qZo (v:Value) (K:Value→Prop) (l:Lk K):bO (some v) K l=K v:=by
 apply propext;exact ⟨fun ⟨u,e,h⟩=>(by cases e;exact h),fun h=>⟨v,rfl,h⟩⟩
def bM (o:Option Mem) (K:Mem→Prop) (_:Lk K):Prop:=∃ v,o=some v∧K v
theorem qZp (v:Mem) (K:Mem→Prop) (l:Lk K):bM (some v) K l=K v:=by
 apply propext;exact ⟨fun ⟨u,e,h⟩=>(by cases e;exact h),fun h=>⟨v,rfl,h⟩⟩
def gQ (b:Option Bool) (want:Bool) (y n:Prop) (_:Lk y) (_:Lk n):Prop:=(b=some want→y)∧(b≠some want→n)
theorem gQ_tt (y n:Prop) (l:Lk y) (l':Lk n):gQ (some true) true y n l l'=y:=by simp [gQ]
theorem gQ_ff (y n:Prop) (l:Lk y) (l':Lk n):gQ (some false) false y n l l'=y:=by simp [gQ]
theorem gQ_tf (y n:Prop) (l:Lk y) (l':Lk n):gQ (some true) false y n l l'=n:=by simp [gQ]
theorem gQ_ft (y n:Prop) (l:Lk y) (l':Lk n):gQ (some false) true y n l l'=n:=by simp [gQ]
theorem qQD (w:Bool) (y n:Prop) (l:Lk y) (l':Lk n):gQ none w y n l l'=n:=by simp [gQ]
theorem qp {b:Bool} {w:Bool} {y n:Prop} {l:Lk y} {l':Lk n} (h:b=w→y) (h':b=!w→n):gQ (some b) w y n l l' :=
 ⟨fun e=>h (Option.some.inj e),fun e=>h' (by cases b<;>cases w<;>simp_all)⟩
def outE (E:Env) (m:Mem) (K:Env→Mem→Prop) (_:Lk K):Prop:=K E m
theorem qva (l:Lk K):outE E m K l=K E m:=rfl
def evO (L:Nat→Value) (σ:Env):List (Nat×X)→Env
 | []=>[]
 | (t,x)::r=>(t,x.ev L σ)::evO L σ r
theorem qKX (outs:List (Nat×X)):(outs.map fun p=>(p.1,p.2.ev L σ))=evO L σ outs:=by
 induction outs with
 | nil=>rfl
 | cons p r ih=>simp [evO,ih]
def evA (L:Nat→Value) (σ:Env):List X→List Value
 | []=>[]
 | x::r=>x.ev L σ::evA L σ r
theorem ud (l:List X):l.map (X.ev L σ)=evA L σ l:=by
 induction l with
 | nil=>rfl
 | cons p r ih=>simp [evA,ih]
theorem qZw (outs:List (Nat×X)):etP P L (.out outs) σ m K=outE (evO L σ outs) m K ⟨⟩:=by simp only [etP,qKX];rfl
theorem qKa (i:Nat) (ro:RO) (args:List X) (k:ET):etP P L (.q i ro args none k) σ m K=bO (rd ro (evA L σ args) m) (fun v=>etP P L k ((i,v)::σ) m K) ⟨⟩:=by
 simp only [etP,gP,ud];rfl
theorem qKY (i:Nat) (ro:RO) (args:List X) (x:X) (w:Bool) (k:ET):etP P L (.q i ro args (some (x,w)) k) σ m K =
  gQ (asB (x.ev L σ)) w (bO (rd ro (evA L σ args) m) (fun v=>etP P L k ((i,v)::σ) m K) ⟨⟩) (etP P L k ((i,undef)::σ) m K) ⟨⟩ ⟨⟩:=by
 simp only [etP,gP,ud,gQ];rfl
def xsP (P:Program) (ro:RO) (args:List Value) (m:Mem) (K:Value→Mem→Prop) (_:Lk K):Prop:=xs P ro args m K
def rcQ (A B:Prop) (_:Lk B):Prop:=A∧B
theorem qvw (B:Prop) (l:Lk B):rcQ True B l=B:=by simp [rcQ]
theorem qXd {A B:Prop} (l:Lk B) (h:A):rcQ A B l=B:=by simp [rcQ,h]
theorem qKV (i:Nat) (ro:RO) (args:List X) (rc:List (Nat×RO×List X×Gd)) (k:ET):etP P L (.x i ro args none rc k) σ m K =
  xsP P ro (evA L σ args) m (fun v m'=>rcQ (rcP L ((i,v)::σ) m' rc) (etP P L k ((i,v)::σ) m' K) ⟨⟩) ⟨⟩:=by
 simp only [etP,gP,ud];rfl
theorem qKK (i:Nat) (ro:RO) (args:List X) (x:X) (w:Bool) (rc:List (Nat×RO×List X×Gd)) (k:ET):etP P L (.x i ro args (some (x,w)) rc k) σ m K =
  gQ (asB (x.ev L σ)) w (xsP P ro (evA L σ args) m (fun v m'=>rcQ (rcP L ((i,v)::σ) m' rc) (etP P L k ((i,v)::σ) m' K) ⟨⟩) ⟨⟩) (etP P L k ((i,undef)::σ) m K) ⟨⟩ ⟨⟩:=by
 simp only [etP,gP,ud,gQ];rfl
def both (A B:Prop) (_:Lk A) (_:Lk B):Prop:=A∧B
theorem qI {A B:Prop} {l:Lk A} {l':Lk B} (h:A) (h':B):both A B l l':=⟨h,h'⟩
theorem qwv (a b:ET):etP P L (.both a b) σ m K=both (etP P L a σ m K) (etP P L b σ m K) ⟨⟩ ⟨⟩:=rfl
theorem qKW:etP P L .tt σ m K=True:=rfl
theorem qyO:rcP L σ m []=True:=rfl
theorem qvy (i:Nat) (ro:RO) (args:List X) (r:List (Nat×RO×List X×Gd)):rcP L σ m ((i,ro,args,none)::r)=rcQ (rd ro (evA L σ args) m=some (σ.get i)) (rcP L σ m r) ⟨⟩:=by
 simp only [rcP,gP,ud];rfl
theorem qjH (i:Nat) (ro:RO) (args:List X) (x:X) (w:Bool) (r:List (Nat×RO×List X×Gd)):rcP L σ m ((i,ro,args,some (x,w))::r) =
  rcQ (gQ (asB (x.ev L σ)) w (rd ro (evA L σ args) m=some (σ.get i)) True ⟨⟩ ⟨⟩) (rcP L σ m r) ⟨⟩:=by
 simp only [rcP,gP,ud,gQ,rcQ]
theorem qkj:wpN P .skip Q E m=Q .normal E m:=rfl
theorem qyx (et:ET) (ins:List Nat):wpN P (.reg et ins) Q E m=rcQ (jY E ins=true) (etP P E.get et [] m fun L' m'=>Q .normal L' m') ⟨⟩:=rfl
theorem qyz (a b:NC):wpN P (.seq a b) Q E m=wpN P a (OP (wpN P b Q) Q) E m:=rfl
def bC (t:Bool) (A B:Prop) (_:Lk A) (_:Lk B):Prop:=bP t A B
theorem GQ (A B:Prop) (l:Lk A) (l':Lk B):bC true A B l l'=A:=by simp [bC,bP]
theorem AR (A B:Prop) (l:Lk A) (l':Lk B):bC false A B l l'=B:=by simp [bC,bP]
theorem qe {t:Bool} {A B:Prop} {l:Lk A} {l':Lk B} (h:t=true→A) (h':t=false→B):bC t A B l l':=⟨h,h'⟩
theorem ZI {p:Prop} [Decidable p] {A B:Prop} {l:Lk A} {l':Lk B} (h:p→A) (h':¬ p→B):bC (decide p) A B l l':=⟨fun e=>h (of_decide_eq_true e),fun e=>h' (of_decide_eq_false e)⟩
theorem qxC {p:Prop} [Decidable p] (A B:Prop) (l:Lk A) (l':Lk B) (h:p):bC (decide p) A B l l'=A:=by rw [decide_eq_true h,GQ]
theorem qxE {p:Prop} [Decidable p] (A B:Prop) (l:Lk A) (l':Lk B) (h:¬ p):bC (decide p) A B l l'=B:=by rw [decide_eq_false h,AR]
def qwf (v:Value) (A B:Prop) (_:Lk A) (_:Lk B):Prop:=qjz v A B
theorem qqy (t:Bool) (A B:Prop) (l:Lk A) (l':Lk B):qwf (.bool t) A B l l'=bC t A B l l':=by simp [qwf,qjz,bC]
theorem qkv (x:X) (a b:NC):wpN P (.cond x a b) Q E m=rcQ (jY E x.used=true) (qwf (x.ev E.get []) (wpN P a Q E m) (wpN P b Q E m) ⟨⟩ ⟨⟩) ⟨⟩:=rfl
theorem qjb (id:Nat) (c:NC):wpN P (.block id c) Q E m=wpN P c (an id Q) E m:=rfl
theorem qkk (id:Nat):wpN P (.exit id) Q E m=Q (.exit id) E m:=rfl
theorem qyj:wpN P .ret Q E m=Q .ret E m:=rfl
def qJq (P:Program) (ks:List Nat) (c:NC) (Q:Exit→Env→Mem→Prop) (E:Env) (m:Mem) (_:Lk c) (_:Lk Q) (_:Lk E) (_:Lk m):Prop:=wpN P (.loop ks c) Q E m
theorem qkx (ks:List Nat) (c:NC):wpN P (.loop ks c) Q E m=qJq P ks c Q E m ⟨⟩ ⟨⟩ ⟨⟩ ⟨⟩:=rfl
theorem ql {ks:List Nat} {c:NC} {l1:Lk c} {l2:Lk Q} {l3:Lk E} {l4:Lk m} (I:Nat→Env→Mem→Prop) (n:Nat) (hh:jY E ks=true) (h0:I n (only E ks) m)
  (h:∀ n E m,I n E m→wpN P c (Da ks I n Q) E m):qJq P ks c Q E m l1 l2 l3 l4:=⟨hh,I,⟨n,h0⟩,h⟩
theorem LO {next:Env→Mem→Prop}:OP next Q .normal E m=next E m:=rfl
theorem Ts {next:Env→Mem→Prop} (id:Nat):OP next Q (.exit id) E m=Q (.exit id) E m:=rfl
theorem qjn {next:Env→Mem→Prop}:OP next Q .ret E m=Q .ret E m:=rfl
theorem Im (id:Nat):an id Q .normal E m=Q .normal E m:=rfl
theorem qqG (id:Nat):an id Q .ret E m=Q .ret E m:=rfl
theorem qqH (id:Nat):an id Q (.exit id) E m=Q .normal E m:=by simp [an]
theorem Ty (id id':Nat) (h:id'≠id):an id Q (.exit id') E m=Q (.exit id') E m:=by simp [an,h]
def qJx (I:Nat→Env→Mem→Prop) (n:Nat) (E:Env) (m:Mem) (_:Lk I) (_:Lk n):Prop:=∃ n',n' < n∧I n' E m
theorem qV {I:Nat→Env→Mem→Prop} {n:Nat} {l:Lk I} {l':Lk n} (n':Nat) (h:n' < n) (h':I n' E m):qJx I n E m l l':=⟨n',h,h'⟩
theorem GF (ks:List Nat) (I:Nat→Env→Mem→Prop) (n:Nat):Da ks I n Q .normal E m=rcQ (jY E ks=true) (qJx I n (only E ks) m ⟨⟩ ⟨⟩) ⟨⟩:=rfl
theorem Pk (ks:List Nat) (I:Nat→Env→Mem→Prop) (n id:Nat):Da ks I n Q (.exit id) E m=Q (.exit id) E m:=rfl
theorem TL (ks:List Nat) (I:Nat→Env→Mem→Prop) (n:Nat):Da ks I n Q .ret E m=Q .ret E m:=rfl
def Wa (rvs:List RV) (R:Value→Mem→Prop) (E:Env) (m:Mem) (_:Lk R) (_:Lk E):Prop:=jY E (rvs.map RV.jB)=true∧∃ vs,yJ E m rvs=some vs∧R (Vn vs) m
theorem Pv (rvs:List RV) (R:Value→Mem→Prop):vL rvs R .normal E m=Wa rvs R E m ⟨⟩ ⟨⟩:=rfl
theorem qkM (rvs:List RV) (R:Value→Mem→Prop):vL rvs R .ret E m=Wa rvs R E m ⟨⟩ ⟨⟩:=rfl
def post (R:Value→Mem→Prop) (v:Value) (m:Mem) (_:Lk R):Prop:=R v m
theorem qZY (t:Nat) (R:Value→Mem→Prop) (l:Lk R) (l':Lk E):Wa [.qq t] R E m l l'=rcQ (E.has t=true) (post R (E.get t) m ⟨⟩) ⟨⟩:=by
 simp [Wa,jY,RV.jB,yJ,RV.val,Vn,rcQ,post]
theorem qZK (t:Nat) (R:Value→Mem→Prop) (l:Lk R) (l':Lk E):Wa [.cell t] R E m l l'=rcQ (E.has t=true) (bO (rd .ld [E.get t] m) (fun v=>post R v m ⟨⟩) ⟨⟩) ⟨⟩:=by
 simp only [Wa,jY,List.map_cons,List.map_nil,RV.jB,List.all_cons,List.all_nil,Bool.and_true,yJ,RV.val,rcQ,bO,TQ,post]
 apply propext
 constructor
 ·rintro ⟨h,vs,hv,hR⟩
  obtain ⟨v,hv',h2⟩:=Option.bind_eq_some_iff.1 hv
  simp only [Option.map_some,Option.some.injEq] at h2;subst h2
  exact ⟨h,v,hv',hR⟩
 ·rintro ⟨h,v,hv,hR⟩
  exact ⟨h,[v],by simp [hv],hR⟩
theorem qwK (t n:Nat) (R:Value→Mem→Prop) (l:Lk R) (l':Lk E):Wa [.cells t n] R E m l l'=rcQ (E.has t=true) (bO (rd (.lda n) [E.get t] m) (fun v=>post R v m ⟨⟩) ⟨⟩) ⟨⟩:=by
 simp only [Wa,jY,List.map_cons,List.map_nil,RV.jB,List.all_cons,List.all_nil,Bool.and_true,yJ,RV.val,rcQ,bO,TQ,post]
 apply propext
 constructor
 ·rintro ⟨h,vs,hv,hR⟩
  obtain ⟨v,hv',h2⟩:=Option.bind_eq_some_iff.1 hv
  simp only [Option.map_some,Option.some.injEq] at h2;subst h2
  exact ⟨h,v,hv',hR⟩
 ·rintro ⟨h,v,hv,hR⟩
  exact ⟨h,[v],by simp [hv],hR⟩
theorem qZa (R:Value→Mem→Prop) (l:Lk R) (l':Lk E):Wa [] R E m l l'=post R (.tuple #[]) m ⟨⟩:=by
 simp [Wa,jY,yJ,Vn,post]
theorem qZW (t u:Nat) (R:Value→Mem→Prop) (l:Lk R) (l':Lk E):Wa [.qq t,.qq u] R E m l l'=rcQ (E.has t=true∧E.has u=true) (post R (.tuple #[E.get t,E.get u]) m ⟨⟩) ⟨⟩:=by
 simp [Wa,jY,RV.jB,yJ,RV.val,Vn,rcQ,post]
theorem xY {R:Value→Mem→Prop} {v:Value} {l:Lk R} (h:R v m):post R v m l:=h
theorem qQB (j:Nat) (v:Value) (r:Env):Env.get ((j,v)::r) j=v:=by simp [Env.get]
theorem qvS (j:Nat) (v:Value) (r:Env) (i:Nat) (h:i≠j):Env.get ((j,v)::r) i=Env.get r i:=by simp [Env.get,h]
theorem qQs (j:Nat) (v:Value) (r:Env):Env.has ((j,v)::r) j=true:=by simp [Env.has]
theorem qvR (j:Nat) (v:Value) (r:Env) (i:Nat) (h:i≠j):Env.has ((j,v)::r) i=Env.has r i:=by simp [Env.has,h]
theorem UO:jY E []=true:=rfl
theorem Rk (t:Nat) (r:List Nat):jY E (t::r)=(E.has t && jY E r):=rfl
theorem qvb:only E []=[]:=rfl
theorem qxz (t:Nat) (r:List Nat):only E (t::r)=(t,E.get t)::only E r:=rfl
theorem qZv (t:Nat):(X.qq t).ev L σ=L t:=rfl
theorem qKJ (t:Nat):(X.qz t).ev L σ=σ.get t:=rfl
theorem qwk (v:Value):(X.const v).ev L σ=v:=rfl
theorem ev_fn (f:Nat):(X.fn f).ev L σ=.func (.func f) #[] #[]:=rfl
theorem qjg (t:Nat):(X.qq t).used=[t]:=rfl
theorem Tn (v:Value):(X.const v).used=[]:=rfl
theorem qxS (i:Nat):mK i []=[]:=rfl
theorem qjW (i:Nat) (v:Value) (r:List Value):mK i (v::r)=(i,v)::mK (i+1) r:=rfl
attribute [go_sem ↓] qZw qKa qKY qKV qKK qwv qKW qyO qvy qjH
attribute [go_sem ↓] qkj qyx qyz qkv qjb qkk qyj qkx LO Ts qjn Im qqG qqH Ty GF Pk TL Pv qkM
attribute [go_sem ↓] qQB qvS qQs qvR
attribute [go_sem] qXd qZo qZp gQ_tt gQ_ff gQ_tf gQ_ft qQD qva evO evA qvw GQ AR qxC qxE qqy qZY qZa qZW qZK qwK
attribute [go_sem] UO Rk qvb qxz qZv qKJ qwk ev_fn qjg Tn qxS qjW Bool.and_true Bool.true_and asB
theorem qyE (c:Bool) (a b:Value):rd .pick [.bool c,a,b] m=some (if c then a else b):=rfl
theorem qvj (a:Addr):rd .nilck [.pointer (some a)] m=some (.pointer (some a)):=rfl
theorem qXy (off:Nat) (a:Addr):rd (.fld off) [.pointer (some a)] m=some (.pointer (some (a.add off))):=rfl
theorem qvk (size:Nat) (a:Addr) (n c:Nat) (k:IntKind) (i:Int) (h:0≤i∧i < n):rd (.ixs size) [.slice (some a) n c,.int k i] m=some (.pointer (some (a.add (i.toNat*size)))):=by
 show (if _ then _ else _)=_;rw [if_pos h];rfl
theorem qXx (len size:Nat) (a:Addr) (k:IntKind) (i:Int) (h:0≤i∧i < len):rd (.ixa len size) [.pointer (some a),.int k i] m=some (.pointer (some (a.add (i.toNat*size)))):=by
 show (if _ then _ else _)=_;rw [if_pos h]
theorem rd_ld (a:Addr):rd .ld [.pointer (some a)] m=cell m a:=rfl
theorem Ux (n:Nat) (a:Addr):rd (.lda n) [.pointer (some a)] m=(jN m a 0 n).map fun l=>.agg l.toArray:=rfl
theorem qJO (off:Nat) (cs:Array Value):rd (.prt off) [.agg cs] m=cs[off]?:=rfl
theorem qyD (off n:Nat) (cs:Array Value):rd (.prta off n) [.agg cs] m=some (.agg (cs.extract off (off+n))):=rfl
theorem qXQ (i:Nat) (cs:Array Value):rd (.ext i) [.tuple cs] m=cs[i]?:=rfl
theorem qXc (k:IntKind) (a b:Int):rd (.iar .add) [.int k a,.int k b] m=some (.int k (k.wrap (a+b))):=by simp [rd,rdp,RO.reads,i2]
theorem qJM (k:IntKind) (a b:Int):rd (.iar .sub) [.int k a,.int k b] m=some (.int k (k.wrap (a - b))):=by simp [rd,rdp,RO.reads,i2]
theorem qJS (k:IntKind) (a b:Int):rd (.iar .mul) [.int k a,.int k b] m=some (.int k (k.wrap (a*b))):=by simp [rd,rdp,RO.reads,i2]
theorem qJN (k:IntKind) (a b:Int) (h:b≠0):rd (.idv .quo) [.int k a,.int k b] m=some (.int k (k.wrap (a.tdiv b))):=by simp [rd,rdp,RO.reads,i2,h]
theorem mg (k:IntKind) (a b:Int) (h:b≠0):rd (.idv .rem) [.int k a,.int k b] m=some (.int k (a.tmod b)):=by simp [rd,rdp,RO.reads,i2,h]
theorem qXX (k:IntKind) (a b:Int):rd (.icm .eql) [.int k a,.int k b] m=some (.bool (decide (a=b))):=by
 simp only [rd,rdp,RO.reads,i2,if_true];congr 2
theorem qJP (k:IntKind) (a b:Int):rd (.icm .neq) [.int k a,.int k b] m=some (.bool (decide (a≠b))):=by
 simp only [rd,rdp,RO.reads,i2,if_true];congr 2;by_cases h:a=b<;>simp [h]
theorem qXq (k:IntKind) (a b:Int):rd (.icm .lss) [.int k a,.int k b] m=some (.bool (decide (a < b))):=by simp [rd,rdp,RO.reads,i2]
theorem qXz (k:IntKind) (a b:Int):rd (.icm .leq) [.int k a,.int k b] m=some (.bool (decide (a≤b))):=by simp [rd,rdp,RO.reads,i2]
theorem qXv (k:IntKind) (a b:Int):rd (.icm .gtr) [.int k a,.int k b] m=some (.bool (decide (b < a))):=by simp [rd,rdp,RO.reads,i2]
theorem qXw (k:IntKind) (a b:Int):rd (.icm .geq) [.int k a,.int k b] m=some (.bool (decide (b≤a))):=by simp [rd,rdp,RO.reads,i2]
theorem qXa (a b:Bool):rd (.beq false) [.bool a,.bool b] m=some (.bool (a == b)):=by simp [rd,rdp,RO.reads,b2]
theorem qXW (a b:Bool):rd (.beq true) [.bool a,.bool b] m=some (.bool (a != b)):=by simp [rd,rdp,RO.reads,b2]
theorem qyM (a:Option Addr):rd (.eqp false) [.pointer a,.pointer none] m=some (.bool a.isNone):=by simp [rd,rdp,RO.reads,eqp]
theorem qyL (a:Option Addr):rd (.eqp true) [.pointer a,.pointer none] m=some (.bool a.isSome):=by simp [rd,rdp,RO.reads,eqp]
theorem rd_not (a:Bool):rd .not [.bool a] m=some (.bool !a):=rfl
theorem qJR (k:IntKind) (n:Int):rd .neg [.int k n] m=some (.int k (k.wrap (0 - n))):=rfl
theorem qyN (k k':IntKind) (n:Int):rd (.conv k) [.int k' n] m=some (.int k (k.wrap n)):=rfl
theorem qXj (a:Option Addr) (n c:Nat):rd .len [.slice a n c] m=some (.int .i64 n):=rfl
theorem qyF (s:ByteArray):rd .lenz [.string s] m=some (.int .i64 s.size):=rfl
theorem rd_mn (k:IntKind) (a b:Int):rd .mn [.int k a,.int k b] m=some (.int k (min a b)):=by
 show (Option.bind (mn2 _ _) fun u=>aR mn2 u [])=_
 simp only [mn2,if_true,Option.bind_some,aR];congr 2;omega
theorem rd_mx (k:IntKind) (a b:Int):rd .mx [.int k a,.int k b] m=some (.int k (max a b)):=by
 show (Option.bind (mx2 _ _) fun u=>aR mx2 u [])=_
 simp only [mx2,if_true,Option.bind_some,aR];congr 2;omega
theorem qvq (size:Nat) (a:Option Addr) (n c:Nat):rd (.slc size false false) [.slice a n c] m=xy size a c 0 n:=rfl
theorem jH (size:Nat) (a:Option Addr) (n c:Nat) (k:IntKind) (lo:Int):rd (.slc size true false) [.slice a n c,.int k lo] m=xy size a c lo n:=rfl
theorem dG (size:Nat) (a:Option Addr) (n c:Nat) (k:IntKind) (hi:Int):rd (.slc size false true) [.slice a n c,.int k hi] m=xy size a c 0 hi:=rfl
theorem PK (size:Nat) (a:Option Addr) (n c:Nat) (k k':IntKind) (lo hi:Int):rd (.slc size true true) [.slice a n c,.int k lo,.int k' hi] m=xy size a c lo hi:=rfl
theorem qJT (t:TypeId) (v:Value):rd (.mki t) [v] m=some (.iface t v):=rfl
attribute [go_sem] qyE qvj qXy qvk qXx rd_ld qJO qyD qXQ qXc qJM qJS qJN mg qXX qJP qXq qXz qXv qXw qXa qXW qyM qyL rd_not qJR qyN qXj qyF rd_mn rd_mx
 qvq jH dG PK qJT
theorem qzU (size:Nat) (a:Option Addr) (c:Nat) (lo hi:Int) (h:0≤lo∧lo≤hi∧hi≤c):xy size a c lo hi=some (.slice (if c=lo.toNat then a else a.map (·.add (lo.toNat*size))) (hi.toNat - lo.toNat) (c - lo.toNat)):=by
 unfold xy;rw [if_pos h]
theorem qKm (size:Nat) (a:Option Addr) (c:Nat) (hi:Int) (h:0≤hi∧hi≤c):xy size a c 0 hi=some (.slice a hi.toNat c):=by
 rw [qzU _ _ _ _ _ ⟨by omega,by omega,by omega⟩]
 simp only [Int.toNat_zero,Nat.sub_zero,Nat.zero_mul]
 congr 2
 split
 ·rfl
 ·cases a with
  | none=>rfl
  | some a=>simp [Addr.add]
theorem qwb (size:Nat) (a:Option Addr) (c:Nat) (lo hi:Int) (h:0 < lo∧lo≤hi∧hi≤c):xy size a c lo hi=some (.slice (if c=lo.toNat then a else a.map (·.add (lo.toNat*size))) (hi.toNat - lo.toNat) (c - lo.toNat)) :=
 qzU size a c lo hi ⟨by omega,h.2.1,h.2.2⟩
attribute [go_sem] qKm qwb Int.toNat_natCast Int.toNat_zero IntWalk.i64_in and_true true_and
def cellAt (o:Option Obj) (i:Nat):Option Value :=
 match o with
 | some (.cells c _ _)=>c[i]?
 | _=>none
theorem cA (b o:Nat):cell m ⟨b,o,none⟩=cellAt (m b) o:=by
 unfold cell cellAt
 cases m b with
 | none=>rfl
 | some x=>cases x<;>rfl
theorem JI (c:Array Value) (t:TypeId) (fr:Nat×Nat) (i:Nat):cellAt (some (.cells c t fr)) i=c[i]?:=rfl
theorem xT (b o n:Nat):Addr.add ⟨b,o,none⟩ n=⟨b,o+n,none⟩:=by unfold Addr.add;split<;>simp_all
theorem Qd (b:Nat) (o:Obj):(m.set b o) b=some o:=by simp [Mem.set]
theorem TG (b:Nat) (o:Obj) (c:Nat) (h:c≠b):(m.set b o) c=m c:=by simp [Mem.set,h]
theorem set_set (b:Nat) (o o':Obj):(m.set b o).set b o'=m.set b o':=by funext c;simp only [Mem.set];split<;>rfl
def putAt (o:Option Obj) (i:Nat) (v:Value):Option Obj :=
 match o with
 | some (.cells c t fr)=>if i < c.size∧¬ (fr.1≤i∧i < fr.2) then some (.cells (c.setIfInBounds i v) t fr) else none
 | _=>none
def Io (o:Option Obj) (K:Obj→Prop) (_:Lk K):Prop:=∃ v,o=some v∧K v
theorem Lr (v:Obj) (K:Obj→Prop) (l:Lk K):Io (some v) K l=K v:=by
 apply propext;exact ⟨fun ⟨u,e,h⟩=>(by cases e;exact h),fun h=>⟨v,rfl,h⟩⟩
theorem Aa (c:Array Value) (t:TypeId) (i:Nat) (v:Value) (h:i < c.size):putAt (some (.cells c t (0,0))) i v=some (.cells (c.setIfInBounds i v) t (0,0)):=by
 simp [putAt,h]
theorem qwu (c:Array Value) (t:TypeId) (i:Nat) (v:Value) (K:Obj→Prop) (l:Lk K):Io (putAt (some (.cells c t (0,0))) i v) K l=rcQ (i < c.size) (K (.cells (c.setIfInBounds i v) t (0,0))) ⟨⟩:=by
 by_cases h:i < c.size
 ·rw [Aa c t i v h,Lr];simp [rcQ,h]
 ·simp [putAt,h,Io,rcQ]
theorem qzl (b o:Nat) (v:Value):qjL m ⟨b,o,none⟩ v=(putAt (m b) o v).map fun x=>m.set b x:=by
 unfold qjL putAt
 cases m b with
 | none=>rfl
 | some x =>
  cases x<;>try rfl
  rename_i c t fr
  simp only
  by_cases h1:o < c.size
  ·by_cases h2:fr.1≤o∧o < fr.2
   ·simp [h1,h2]
   ·have:(decide (fr.1≤o) && decide (o < fr.2))=false:=by simpa using h2
    simp [h1,h2,this]
  ·simp [h1]
def wrO (m:Mem) (b:Nat) (o:Obj) (J:Mem→Prop) (_:Lk J) (_:Lk m):Prop:=J (m.set b o)
theorem tW (b o:Nat) (v:Value) (K:Value→Mem→Prop) (l:Lk K) (h:v.oneCell'=true):xsP P (.st 1) [.pointer (some ⟨b,o,none⟩),v] m K l=Io (putAt (m b) o v) (fun x=>wrO m b x (K undef) ⟨⟩ ⟨⟩) ⟨⟩:=by
 have hc:v.cells=#[v]:=by cases v<;>first | rfl | (simp [Value.oneCell'] at h)
 simp only [xsP,xs,pP,hc,zT,h,if_true,xT,Nat.add_zero,qzl]
 apply propext
 constructor
 ·rintro ⟨_,m',hm,hk⟩
  obtain ⟨m1,hm1,hm2⟩:=Option.bind_eq_some_iff.1 hm
  obtain ⟨x,hx,rfl⟩:=Option.map_eq_some_iff.1 hm1
  cases hm2
  exact ⟨x,hx,hk⟩
 ·rintro ⟨x,hx,hk⟩
  exact ⟨rfl,m.set b x,by rw [hx];rfl,hk⟩
theorem Tg (b o:Nat) (k:IntKind) (n:Int) (K:Value→Mem→Prop) (l:Lk K):xsP P (.st 1) [.pointer (some ⟨b,o,none⟩),.int k n] m K l=Io (putAt (m b) o (.int k n)) (fun x=>wrO m b x (K undef) ⟨⟩ ⟨⟩) ⟨⟩:=tW b o _ K l rfl
theorem Om (b o:Nat) (n:Bool) (K:Value→Mem→Prop) (l:Lk K):xsP P (.st 1) [.pointer (some ⟨b,o,none⟩),.bool n] m K l=Io (putAt (m b) o (.bool n)) (fun x=>wrO m b x (K undef) ⟨⟩ ⟨⟩) ⟨⟩:=tW b o _ K l rfl
theorem LH (b o:Nat) (a:Option Addr) (n c:Nat) (K:Value→Mem→Prop) (l:Lk K):xsP P (.st 1) [.pointer (some ⟨b,o,none⟩),.slice a n c] m K l=Io (putAt (m b) o (.slice a n c)) (fun x=>wrO m b x (K undef) ⟨⟩ ⟨⟩) ⟨⟩:=tW b o _ K l rfl
theorem Te (b o:Nat) (a:Option Addr) (K:Value→Mem→Prop) (l:Lk K):xsP P (.st 1) [.pointer (some ⟨b,o,none⟩),.pointer a] m K l=Io (putAt (m b) o (.pointer a)) (fun x=>wrO m b x (K undef) ⟨⟩ ⟨⟩) ⟨⟩:=tW b o _ K l rfl
theorem Gm (b o:Nat) (s:ByteArray) (K:Value→Mem→Prop) (l:Lk K):xsP P (.st 1) [.pointer (some ⟨b,o,none⟩),.string s] m K l=Io (putAt (m b) o (.string s)) (fun x=>wrO m b x (K undef) ⟨⟩ ⟨⟩) ⟨⟩:=tW b o _ K l rfl
theorem Tf (b o:Nat) (a:Option Nat) (K:Value→Mem→Prop) (l:Lk K):xsP P (.st 1) [.pointer (some ⟨b,o,none⟩),.map a] m K l=Io (putAt (m b) o (.map a)) (fun x=>wrO m b x (K undef) ⟨⟩ ⟨⟩) ⟨⟩:=tW b o _ K l rfl
def stQ (m:Mem) (a:Addr) (i:Nat) (l:List Value) (K:Mem→Prop) (_:Lk K) (_:Lk m):Prop:=∃ m',zT m a i l=some m'∧K m'
theorem qQX (k:IntKind) (n:Int):(Value.int k n).oneCell'=true:=rfl
theorem qvc (b:Bool):(Value.bool b).oneCell'=true:=rfl
theorem UJ (b:ByteArray):(Value.string b).oneCell'=true:=rfl
theorem qxj (a:Option Addr) (n c:Nat):(Value.slice a n c).oneCell'=true:=rfl
theorem Pt (a:Option Addr):(Value.pointer a).oneCell'=true:=rfl
theorem qQJ (a:Option Nat):(Value.map a).oneCell'=true:=rfl
theorem qJJ (n:Nat) (a:Addr) (cs:Array Value) (K:Value→Mem→Prop) (l:Lk K):xsP P (.st n) [.pointer (some a),.agg cs] m K l=rcQ (cs.toList.length=n) (stQ m a 0 cs.toList (K undef) ⟨⟩ ⟨⟩) ⟨⟩:=by
 simp only [xsP,xs,pP,Value.cells,rcQ,stQ,Array.length_toList]
def Fy (o:Option Obj) (i n:Nat):Option Value :=
 match o with
 | some (.cells c _ _)=>if i+n≤c.size then some (.agg ((c.toList.drop i).take n).toArray) else none
 | _=>none
attribute [go_sem] qQX qvc UJ qxj Pt qQJ qJJ
attribute [go_sem] List.getElem?_toArray List.setIfInBounds_toArray List.size_toArray List.extract_toArray List.getElem?_cons_zero List.getElem?_cons_succ List.set_cons_succ List.set_cons_zero
attribute [go_sem] List.drop_succ_cons List.drop_zero List.take_succ_cons List.take_zero List.getElem?_map List.length_map List.length_set List.extract_eq_take_drop Option.getD_some
def xc (P:Program) (f:Nat) (args:List Value) (m:Mem) (K:Value→Mem→Prop) (_:Lk K):Prop:=MC P f args m K
theorem qwS (f:Nat) (args:List Value) (K:Value→Mem→Prop) (l:Lk K):xsP P (.call f) args m K l=xc P f args m K l:=by
 simp only [xsP,xc];cases args<;>rfl
theorem xz {f:Nat} {args:List Value} {R K:Value→Mem→Prop} {l:Lk K} (h:MC P f args m R) (hk:∀ v m',R v m'→K v m'):xc P f args m K l:=MC.mono h hk
def PC (m:Mem) (o:Obj) (J:Nat→Mem→Prop) (_:Lk J) (_:Lk m):Prop:=∀ b,m b=none→J b (m.set b o)
theorem qJK (t:TypeId) (bytes:Nat) (zero:List Value) (n c:Int) (K:Value→Mem→Prop) (l:Lk K) (h:0≤n∧n≤c∧c≤9223372036854775807∧bytes*c≤281474976710656):xsP P (.mks t bytes zero) [.int .i64 n,.int .i64 c] m K l =
  PC m (.cells (List.replicate c.toNat zero).flatten.toArray t) (fun b M=>K (.slice (some ⟨b,0,none⟩) n.toNat c.toNat) M) ⟨⟩ ⟨⟩:=by
 simp only [xsP,xs,iP,PC,h,true_and]
theorem qJc (zero:List Value) (t:TypeId) (K:Value→Mem→Prop) (l:Lk K):xsP P (.alc zero t) [] m K l=PC m (.cells zero.toArray t) (fun b M=>K (.pointer (some ⟨b,0,none⟩)) M) ⟨⟩ ⟨⟩:=rfl
theorem qJa (t:TypeId) (v:Value) (K:Value→Mem→Prop) (l:Lk K):xsP P (.box t) [v] m K l=PC m (.cells v.cells t) (fun b M=>K (.pointer (some ⟨b,0,none⟩)) M) ⟨⟩ ⟨⟩:=rfl
theorem qXY (zero:List Value) (ps:List (Nat×Nat)) (vs:List Value):rd (.bld zero ps) vs m=(lay zero ps vs).map fun l=>.agg l.toArray:=rfl
theorem qyy (l:Array Value):vcl (.agg l)=l.toList:=rfl
theorem qyw (k:IntKind) (n:Int):vcl (.int k n)=[.int k n]:=rfl
theorem qkX (b:Bool):vcl (.bool b)=[.bool b]:=rfl
theorem Tm (b:ByteArray):vcl (.string b)=[.string b]:=rfl
theorem qjf (a:Option Addr) (n c:Nat):vcl (.slice a n c)=[.slice a n c]:=rfl
theorem OG (a:Option Addr):vcl (.pointer a)=[.pointer a]:=rfl
theorem qyv (a:Option Nat):vcl (.map a)=[.map a]:=rfl
theorem qQh (c:List Value):lay c [] []=some c:=rfl
theorem qvD (x:Value) (c:List Value) (off size:Nat) (ps:List (Nat×Nat)) (v:Value) (vs:List Value):lay (x::c) ((off,size)::ps) (v::vs)=if (vcl v).length=size then (spl off (vcl v) (x::c)).bind fun cs=>lay cs ps vs else none:=rfl
theorem qyc (c:List Value):spl 0 [] c=some c:=by cases c<;>rfl
theorem qks (v:Value) (vs:List Value) (x:Value) (c:List Value):spl 0 (v::vs) (x::c)=(spl 0 vs c).map (v::·):=rfl
theorem qkt (n:Nat) (vs:List Value) (x:Value) (c:List Value):spl (n+1) vs (x::c)=(spl n vs c).map (x::·):=by cases vs<;>rfl
def bL (o:Option (List Value)) (K:List Value→Prop) (_:Lk K):Prop:=∃ v,o=some v∧K v
theorem qZr (v:List Value) (K:List Value→Prop) (l:Lk K):bL (some v) K l=K v:=by
 apply propext;exact ⟨fun ⟨u,e,h⟩=>(by cases e;exact h),fun h=>⟨v,rfl,h⟩⟩
theorem qJY (t:TypeId) (len:Nat) (zero:List Value) (ps:List (Nat×Nat)) (vs:List Value) (K:Value→Mem→Prop) (l:Lk K):xsP P (.bsl t len zero ps) vs m K l =
  bL (lay zero ps vs) (fun l=>PC m (.cells l.toArray t) (fun b M=>K (.slice (some ⟨b,0,none⟩) len len) M) ⟨⟩ ⟨⟩) ⟨⟩:=by
 simp only [xsP,xs];rfl
def qqO (P:Program) (t:TypeId) (size bytes:Nat) (zero:List Value) (x y:Value) (m:Mem) (K:Value→Mem→Prop) (_:Lk K) (_:Lk x) (_:Lk m):Prop:=xs P (.app t size bytes zero) [x,y] m K
theorem qJb (t:TypeId) (size bytes:Nat) (zero:List Value) (x y:Value) (K:Value→Mem→Prop) (l:Lk K):xsP P (.app t size bytes zero) [x,y] m K l=qqO P t size bytes zero x y m K ⟨⟩ ⟨⟩ ⟨⟩:=rfl
def cpyQ (P:Program) (size:Nat) (x y:Value) (m:Mem) (K:Value→Mem→Prop) (_:Lk K) (_:Lk x) (_:Lk m):Prop:=xs P (.cpy size) [x,y] m K
theorem qJW (size:Nat) (x y:Value) (K:Value→Mem→Prop) (l:Lk K):xsP P (.cpy size) [x,y] m K l=cpyQ P size x y m K ⟨⟩ ⟨⟩ ⟨⟩:=rfl
attribute [go_sem] qXY qyy qyw qkX Tm qjf OG qyv qQh qvD qyc qks qkt qZr qJY qJb qJW List.length_cons List.length_nil eq_self ite_true ite_false Option.bind_some
attribute [go_sem] cA JI xT Qd TG set_set qwu Lr Tg Om LH Te Gm Tf qwS qJK qJc qJa
attribute [go_sem] Option.map_some Option.map_none Nat.mul_one Nat.zero_add Nat.add_zero
theorem qwO {f:Nat} {fn:Func} {F:FN} (hf:P.funcs[f]?=some fn) (hc:qjj P fn=some F) (hm:P.follows .mixedOrders=true) {args:List Value} {R:Value→Mem→Prop}
  (hn:args.length≤fn.ntmps) (h:wpN P F.code (vL F.rvs R) (mK 0 args) m):MC P f args m R:=MC_of hf hc hm hn h
end
end Go.Fw
namespace Go.Fw
open Go
def Fr (m m':Mem) (S:List Nat):Prop:=∀ b,m b≠none→b∉S→m' b=m b
theorem Fr.refl (m:Mem) (S:List Nat):Fr m m S:=fun _ _ _=>rfl
theorem Fr.trans {a b c:Mem} {S T:List Nat} (h:Fr a b S) (g:Fr b c T) (hT:∀ x∈T,a x≠none→x∈S):Fr a c S:=fun x hx hS=>by
 have h1:=h x hx hS
 rw [g x (by rw [h1];exact hx) (fun hxT=>hS (hT x hxT hx)),h1]
theorem Fr.KA {a b c:Mem} {S:List Nat} (h:Fr a b S) (g:Fr b c []):Fr a c S:=h.trans g (fun _ hx=>by cases hx)
theorem Fr.bR {a b c:Mem} {S:List Nat} (h:Fr a b S) (g:Fr b c S):Fr a c S:=h.trans g (fun _ hx _=>hx)
theorem Fr.sub {a b:Mem} {S T:List Nat} (h:Fr a b S) (hs:∀ x∈S,x∈T):Fr a b T:=fun x hx hT=>h x hx (fun hS=>hT (hs x hS))
theorem Fr.new {m:Mem} {b:Nat} {o:Obj} (S:List Nat) (hb:m b=none):Fr m (m.set b o) S:=fun x hx _=>by
 unfold Mem.set;rw [if_neg];rintro rfl;exact hx hb
theorem Fr.set {m:Mem} {b:Nat} {o:Obj} {S:List Nat} (hb:b∈S):Fr m (m.set b o) S:=fun x _ hS=>by
 unfold Mem.set;rw [if_neg];rintro rfl;exact hS hb
theorem Fr.get {m m':Mem} {S:List Nat} (h:Fr m m' S) {b:Nat} {o:Obj} (hb:m b=some o) (hS:b∉S):m' b=some o:=by
 rw [h b (by rw [hb];exact Option.some_ne_none _) hS,hb]
theorem Fr.xg {m m':Mem} (h:Fr m m' []) {b:Nat} {o:Obj} (hb:m b=some o):m' b=some o:=h.get hb (by simp)
theorem Fr.cellAt {m m':Mem} {S:List Nat} (h:Fr m m' S) {b i:Nat} {v:Value} (hb:cellAt (m b) i=some v) (hS:b∉S):cellAt (m' b) i=some v:=by
 rw [h b (by intro e;rw [e] at hb;cases hb) hS];exact hb
theorem Fr.some {m m':Mem} {S:List Nat} (h:Fr m m' S) {b:Nat} (hb:m b≠none) (hS:b∉S):m' b≠none:=by rw [h b hb hS];exact hb
def Up {α:Type} (f:Nat→α) (k:Nat) (x:α):Nat→α:=fun i=>if i=k then x else f i
theorem qjV {α:Type} (f:Nat→α) (k:Nat) (x:α):Up f k x k=x:=by simp [Up]
theorem qJy {α:Type} {f:Nat→α} {k i:Nat} (x:α) (h:i≠k):Up f k x i=f i:=by simp [Up,h]
def ri (n:Nat) (f:Nat→Int):List Value:=(List.range n).map fun i=>.int .i64 (f i)
def rb (n:Nat) (f:Nat→Bool):List Value:=(List.range n).map fun i=>.bool (f i)
theorem Db (n:Nat) (f:Nat→Int):(ri n f).length=n:=by simp [ri]
theorem Df (n:Nat) (f:Nat→Bool):(rb n f).length=n:=by simp [rb]
theorem Dc (n:Nat) (f:Nat→Int) (k:Nat) (h:k < n):(ri n f)[k]?=some (.int .i64 (f k)):=by simp [ri,List.getElem?_range h]
theorem Dg (n:Nat) (f:Nat→Bool) (k:Nat) (h:k < n):(rb n f)[k]?=some (.bool (f k)):=by simp [rb,List.getElem?_range h]
theorem qJF (n:Nat) (f:Nat→Int) (k:Nat) (x:Int):(ri n f).set k (.int .i64 x)=ri n (Up f k x):=by
 apply List.ext_getElem?
 intro i
 rw [List.getElem?_set]
 by_cases hi:i < n
 ·rw [Dc n _ i hi]
  split
  ·rename_i e;subst e;rw [if_pos (by rw [Db];exact hi),Dc n _ k hi,qjV]
  ·rename_i e;rw [Dc n _ i hi,qJy _ (fun h=>e h.symm)]
 ·have h1:∀ g,(ri n g)[i]?=none:=fun g=>List.getElem?_eq_none (by rw [Db];omega)
  rw [h1,h1]
  split
  ·rw [if_neg (by rw [Db];omega)]
  ·rfl
theorem qXe (n:Nat) (f:Nat→Bool) (k:Nat) (x:Bool):(rb n f).set k (.bool x)=rb n (Up f k x):=by
 apply List.ext_getElem?
 intro i
 rw [List.getElem?_set]
 by_cases hi:i < n
 ·rw [Dg n _ i hi]
  split
  ·rename_i e;subst e;rw [if_pos (by rw [Df];exact hi),Dg n _ k hi,qjV]
  ·rename_i e;rw [Dg n _ i hi,qJy _ (fun h=>e h.symm)]
 ·have h1:∀ g,(rb n g)[i]?=none:=fun g=>List.getElem?_eq_none (by rw [Df];omega)
  rw [h1,h1]
  split
  ·rw [if_neg (by rw [Df];omega)]
  ·rfl
theorem qJG (n:Nat):(List.replicate n [Value.int .i64 0]).flatten=ri n fun _=>0:=by
 apply List.ext_getElem?
 intro i
 by_cases hi:i < n
 ·rw [Dc n _ i hi]
  simp [List.flatten_replicate_singleton,hi]
 ·rw [List.getElem?_eq_none (by simp;omega),List.getElem?_eq_none (by rw [Db];omega)]
theorem qXf (n:Nat):(List.replicate n [Value.bool false]).flatten=rb n fun _=>false:=by
 apply List.ext_getElem?
 intro i
 by_cases hi:i < n
 ·rw [Dg n _ i hi]
  simp [List.flatten_replicate_singleton,hi]
 ·rw [List.getElem?_eq_none (by simp;omega),List.getElem?_eq_none (by rw [Df];omega)]
attribute [go_sem] Db Df Dc Dg qJF qXe qJG qXf
def Rd1 (m:Mem) (a:Option Addr) (l:List Value):Prop:=l=[]∨∃ b o,a=some ⟨b,o,none⟩∧∀ i v,l[i]?=some v→cellAt (m b) (o+i)=some v
theorem Rd1.at {m:Mem} {a:Option Addr} {l:List Value} (h:Rd1 m a l) {i:Nat} (hi:i < l.length):∃ b o,a=some ⟨b,o,none⟩∧cellAt (m b) (o+i)=some l[i]:=by
 rcases h with rfl | ⟨b,o,rfl,hc⟩
 ·simp at hi
 ·exact ⟨b,o,rfl,hc i _ (List.getElem?_eq_getElem hi)⟩
theorem Rd1.frame {m m':Mem} {a:Option Addr} {l:List Value} (h:Rd1 m a l) (f:Fr m m' []):Rd1 m' a l:=by
 rcases h with rfl | ⟨b,o,rfl,hc⟩
 ·exact .inl rfl
 ·exact .inr ⟨b,o,rfl,fun i v hv=>f.cellAt (hc i v hv) (by simp)⟩
def qH:Value→List Nat
 | .slice (some a) _ _=>[a.block]
 | _=>[]
def Own (m:Mem) (t:TypeId) (size:Nat) (v:Value) (n:Nat) (xs:List Value):Prop :=
 xs.length=n*size∧((v=.slice none 0 0∧n=0)∨∃ b cap tail,v=.slice (some ⟨b,0,none⟩) n cap∧m b=some (.cells (xs++tail).toArray t (0,0))∧(xs++tail).length=cap*size)
theorem Own.nil (m:Mem) (t:TypeId) (size:Nat):Own m t size (.slice none 0 0) 0 []:=⟨by simp,.inl ⟨rfl,rfl⟩⟩
theorem Own.new {m:Mem} {t:TypeId} {size b n:Nat} {xs:List Value} (h:xs.length=n*size):Own (m.set b (.cells xs.toArray t)) t size (.slice (some ⟨b,0,none⟩) n n) n xs :=
 ⟨h,.inr ⟨b,n,[],rfl,by simp [Mem.set],by simpa using h⟩⟩
theorem Own.frame {m m':Mem} {t:TypeId} {size n:Nat} {v:Value} {xs:List Value} {S:List Nat} (h:Own m t size v n xs) (f:Fr m m' S) (hS:∀ b∈qH v,b∉S):Own m' t size v n xs:=by
 refine ⟨h.1,?_⟩
 rcases h.2 with h | ⟨b,cap,tail,rfl,hb,hl⟩
 ·exact .inl h
 ·exact .inr ⟨b,cap,tail,rfl,f.get hb (hS b (by simp [qH])),hl⟩
theorem Own.fu {m m':Mem} {t:TypeId} {size n:Nat} {v:Value} {xs:List Value} (h:Own m t size v n xs) (f:Fr m m' []):Own m' t size v n xs:=h.frame f (fun _ _=>by simp)
theorem Own.there {m:Mem} {t:TypeId} {size n:Nat} {v:Value} {xs:List Value} (h:Own m t size v n xs):∀ b∈qH v,m b≠none:=by
 rcases h.2 with ⟨rfl,_⟩ | ⟨b,cap,tail,rfl,hb,_⟩
 ·intro b hb;simp [qH] at hb
 ·intro b' hb';simp only [qH,List.mem_singleton] at hb';subst hb';rw [hb];exact Option.some_ne_none _
theorem Own.form {m:Mem} {t:TypeId} {size n:Nat} {v:Value} {xs:List Value} (h:Own m t size v n xs):∃ a c,v=.slice a n c:=by
 rcases h.2 with ⟨rfl,rfl⟩ | ⟨b,cap,tail,rfl,_⟩
 ·exact ⟨_,_,rfl⟩
 ·exact ⟨_,_,rfl⟩
theorem Own.row {m:Mem} {t:TypeId} {size n:Nat} {v:Value} {xs:List Value} (h:Own m t size v n xs) (hn:0 < n) :
  ∃ b cap tail,v=.slice (some ⟨b,0,none⟩) n cap∧m b=some (.cells (xs++tail).toArray t (0,0))∧n*size≤cap*size∧xs.length=n*size:=by
 rcases h.2 with ⟨rfl,rfl⟩ | ⟨b,cap,tail,rfl,hb,hl⟩
 ·omega
 ·have:=h.1
  simp only [List.length_append] at hl
  exact ⟨b,cap,tail,rfl,hb,by omega,h.1⟩
theorem XO {m:Mem} {b:Nat} {l:List Value} {t:TypeId} {fr:Nat×Nat} (hb:m b=some (.cells l.toArray t fr)):∀ (n i o:Nat),o+i+n≤l.length →
  jN m ⟨b,o,none⟩ i n=some ((l.drop (o+i)).take n)
 | 0,i,o,h=>by simp [jN]
 | n+1,i,o,h=>by
  have hlt:o+i < l.length:=by omega
  have hc:cell m (Addr.add ⟨b,o,none⟩ i)=some l[o+i]:=by
   rw [xT,cA,hb,JI];simp [hlt]
  rw [jN,hc,Option.bind_some,XO hb n (i+1) o (by omega),Option.map_some]
  congr 1
  rw [List.drop_eq_getElem_cons hlt,List.take_succ_cons];rfl
theorem qkB {m:Mem} {b:Nat} {o:Obj} (h:m b=some o):m.set b o=m:=by
 funext x;unfold Mem.set;split
 ·rename_i e;subst e;exact h.symm
 ·rfl
theorem XG {t:TypeId} {b o:Nat}:∀ (vs:List Value) (i:Nat) (m:Mem) (l:List Value),m b=some (.cells l.toArray t (0,0))→o+i+vs.length≤l.length→(∀ v∈vs,v.oneCell'=true) →
  zT m ⟨b,o,none⟩ i vs=some (m.set b (.cells (l.take (o+i)++vs++l.drop (o+i+vs.length)).toArray t (0,0)))
 | [],i,m,l,hb,_,_=>by
  simp only [zT,List.append_nil,List.length_nil,Nat.add_zero,List.take_append_drop]
  rw [qkB hb]
 | v::vs,i,m,l,hb,hl,h1=>by
  simp only [List.length_cons] at hl
  have hv:=h1 v (List.mem_cons_self ..)
  have hlt:o+i < l.length:=by omega
  simp only [zT,hv,if_true]
  have hp:qjL m (Addr.add ⟨b,o,none⟩ i) v=some (m.set b (.cells (l.set (o+i) v).toArray t (0,0))):=by
   rw [xT,qzl,hb,Aa _ _ _ _ (by simpa using hlt)]
   simp
  rw [hp,Option.bind_some,XG vs (i+1) _ (l.set (o+i) v) (t:=t) (by simp [Mem.set]) (by simp;omega) (fun u hu=>h1 u (List.mem_cons_of_mem _ hu)),set_set]
  congr 4
  rw [List.take_set,List.drop_set_of_lt (by omega),show o+(i+1)=o+i+1 from by omega,List.take_succ_eq_append_getElem hlt]
  rw [List.set_append_right _ _ (by simp;omega)]
  simp only [List.length_take,Nat.min_eq_left (Nat.le_of_lt hlt),Nat.sub_self,List.set_cons_zero,List.append_assoc,List.cons_append,List.nil_append,List.length_cons]
  rw [show o+i+1+vs.length=o+i+(vs.length+1) from by omega]
theorem TV {t:TypeId} {size bytes:Nat} {zero:List Value} {x:Value} {m:Mem} {K:Value→Mem→Prop} {n k:Nat} {xs news:List Value}
  (h:Own m t size x n xs) (hk:news.length=k*size) (h1:∀ v∈news,v.oneCell'=true) (hz:zero.length=size)
  (hb:(n+k)*bytes≤140737488355328) (h62:n+k≤4611686018427387904)
  (hK:∀ v m',Own m' t size v (n+k) (xs++news)→Fr m m' (qH x)→(∀ b∈qH v,b∈qH x∨m b=none)→K v m'):∃ a cap,x=.slice a n cap∧Oe size bytes zero t m K a n cap news k:=by
 obtain ⟨hlen,hx⟩:=h
 have hzl:∀ j,((List.replicate j zero).flatten).length=j*size:=fun j=>by simp [hz]
 rcases hx with ⟨rfl,rfl⟩ | ⟨bx,cap,tail,rfl,hbx,hcap⟩
 ·have hxs:xs=[]:=List.eq_nil_of_length_eq_zero (by simpa using hlen)
  subst hxs
  refine ⟨none,0,rfl,hb,h62,fun hle=>?_,fun hlt=>⟨[],rfl,fun cc bb hcc hbb=>?_⟩⟩
  ·have hk0:k=0:=by omega
   subst hk0
   have hn0:news=[]:=List.eq_nil_of_length_eq_zero (by simpa using hk)
   subst hn0
   exact hK _ _ ⟨by simp,.inl ⟨rfl,rfl⟩⟩ (Fr.refl _ _) (fun _ hb=>.inl hb)
  ·refine hK _ _ ⟨by simp [hk],.inr ⟨bb,cc,(List.replicate (cc - (0+k)) zero).flatten,rfl,by simp [Mem.set],?_⟩⟩ (Fr.new _ hbb) (fun b' hb'=>?_)
   ·simp only [List.nil_append,List.length_append,hk,hzl]
    rw [← Nat.add_mul];congr 1;omega
   ·simp only [qH,List.mem_singleton] at hb';subst hb';exact .inr hbb
 ·simp only [List.length_append] at hcap
  refine ⟨some ⟨bx,0,none⟩,cap,rfl,hb,h62,fun hle=>?_,fun hlt=>?_⟩
  ·have hle':(n+k)*size≤cap*size:=Nat.mul_le_mul_right _ hle
   rw [Nat.add_mul] at hle'
   have hst:=XG (t:=t) (b:=bx) (o:=0) news (n*size) m (xs++tail) hbx (by simp only [List.length_append];omega) h1
   refine ⟨_,hst,hK _ _ ⟨by simp [hlen,hk,Nat.add_mul],.inr ⟨bx,cap,tail.drop news.length,rfl,?_,?_⟩⟩ (Fr.set (by simp [qH])) (fun _ hb=>.inl hb)⟩
   ·simp only [Mem.set,if_true,Nat.zero_add]
    congr 3
    rw [← hlen,List.take_left',List.append_assoc,List.append_assoc]
    ·congr 2
     rw [List.drop_append]
     simp
    ·rfl
   ·simp only [List.length_append,List.length_drop];omega
  ·have hold:ldS m (some ⟨bx,0,none⟩) (n*size)=some xs:=by
    simp only [ldS]
    rw [XO hbx (n*size) 0 0 (by simp only [List.length_append];omega)]
    simp [← hlen]
   refine ⟨xs,hold,fun cc bb hcc hbb=>hK _ _ ⟨by simp [hlen,hk,Nat.add_mul],.inr ⟨bb,cc,(List.replicate (cc - (n+k)) zero).flatten,rfl,by simp [Mem.set],?_⟩⟩ (Fr.new _ hbb) (fun b' hb'=>?_)⟩
   ·simp only [List.length_append,hlen,hk,hzl]
    rw [← Nat.add_mul,← Nat.add_mul];congr 1;omega
   ·simp only [qH,List.mem_singleton] at hb';subst hb';exact .inr hbb
theorem CR {P:Program} {t:TypeId} {size bytes:Nat} {zero:List Value} {x y:Value} {m:Mem} {K:Value→Mem→Prop} {l:Lk K} {l1:Lk x} {l2:Lk m} {n k c:Nat} {b:Option Addr} {xs news:List Value}
  (h:Own m t size x n xs) (hy:y=.slice b k c) (hnews:ldS m b (k*size)=some news) (hk:news.length=k*size) (h1:∀ v∈news,v.oneCell'=true) (hz:zero.length=size)
  (hb:(n+k)*bytes≤140737488355328) (h62:n+k≤4611686018427387904)
  (hK:∀ v m',Own m' t size v (n+k) (xs++news)→Fr m m' (qH x)→(∀ b∈qH v,b∈qH x∨m b=none)→K v m'):qqO P t size bytes zero x y m K l l1 l2:=by
 subst hy
 obtain ⟨a,cap,rfl,ha⟩:=TV (bytes:=bytes) (zero:=zero) h hk h1 hz hb h62 hK
 exact ⟨news,hnews,ha⟩
def qZA (P:Program) (t:TypeId) (x y:Value) (m:Mem) (K:Value→Mem→Prop) (_:Lk K) (_:Lk x) (_:Lk m):Prop:=xs P (.apps t) [x,y] m K
theorem qwT {P:Program} {m:Mem} (t:TypeId) (x y:Value) (K:Value→Mem→Prop) (l:Lk K):xsP P (.apps t) [x,y] m K l=qZA P t x y m K ⟨⟩ ⟨⟩ ⟨⟩:=rfl
attribute [go_sem] qwT
theorem qZu {P:Program} {t:TypeId} {x:Value} {m:Mem} {K:Value→Mem→Prop} {l:Lk K} {l1:Lk x} {l2:Lk m} {n:Nat} {s:ByteArray} {xs:List Value}
  (h:Own m t 1 x n xs) (hb:n+s.size≤140737488355328)
  (hK:∀ v m',Own m' t 1 v (n+s.size) (xs++s.data.toList.map fun (c:UInt8)=>Value.int .u8 c.toNat)→Fr m m' (qH x)→(∀ b∈qH v,b∈qH x∨m b=none)→K v m'):qZA P t x (.string s) m K l l1 l2:=by
 obtain ⟨a,cap,rfl,ha⟩:=TV (bytes:=1) (zero:=[.int .u8 0]) (k:=s.size) h (news:=s.data.toList.map fun (c:UInt8)=>Value.int .u8 c.toNat) (by rw [List.length_map,Array.length_toList,Nat.mul_one];rfl) (by
  intro v hv
  obtain ⟨c,_,rfl⟩:=List.mem_map.1 hv
  rfl) rfl (by omega) (by omega) hK
 exact ha
end Go.Fw
namespace Go.Fw
open Go
set_option linter.unusedSectionVars false
variable {α:Type} [DecidableEq α]
structure XB (ag:Bool) (ks:List LK) (enc:α→Value):Prop where
 fit:∀ x,xB ag (enc x)=true
 eq:∀ x y,qi ks (vcl (enc x)) (vcl (enc y))=some (decide (x=y))
theorem XB.ok {ag:Bool} {ks:List LK} {enc:α→Value} (h:XB ag ks enc) (x:α):cL ag ks (enc x)=true:=by
 simp [cL,h.fit,h.eq]
theorem XB.inj {ag:Bool} {ks:List LK} {enc:α→Value} (h:XB ag ks enc) {x y:α} (e:enc x=enc y):x=y:=by
 have h1:=h.eq x y
 rw [e,h.eq y y] at h1
 simpa using h1.symm
def XN (k:α):List (α×Value)→Nat→Option (Nat×Value)
 | [],_=>none
 | p::r,i=>if k=p.1 then some (i,p.2) else XN k r (i+1)
def look (k:α) (l:List (α×Value)):Option Value:=(XN k l 0).map (·.2)
def zx (l:List (α×Value)):List α:=l.map (·.1)
def gW (k:α) (v:Value) (l:List (α×Value)):List (α×Value):=if k∈zx l then l.map fun p=>if p.1=k then (k,v) else p else l++[(k,v)]
def ue (k:α) (l:List (α×Value)):List (α×Value):=l.filter fun p=>p.1≠k
structure ao (enc:α→Value) (es:Array MapEntry) (clock:Nat) (l:List (α×Value)):Prop where
 kv:es.toList.map (fun e=>(e.key,e.val))=l.map (fun p=>(enc p.1,p.2))
 nd:(zx l).Nodup
 bd:(es.toList.map (·.born)).Nodup
 lt:∀ e∈es.toList,e.born < clock
def JM (enc:α→Value) (m:Mem) (r:Nat) (l:List (α×Value)):Prop:=∃ es clock,m r=some (.map es clock)∧ao enc es clock l
theorem JM.new (enc:α→Value) (m:Mem) (r:Nat):JM enc (m.set r (.map #[] 0)) r ([]:List (α×Value)) :=
 ⟨#[],0,by simp [Mem.set],by simp,by simp [zx],by simp,by simp⟩
theorem JM.frame {enc:α→Value} {m m':Mem} {r:Nat} {l:List (α×Value)} {S:List Nat} (h:JM enc m r l) (f:Fr m m' S) (hr:r∉S):JM enc m' r l:=by
 obtain ⟨es,c,hm,hh⟩:=h
 exact ⟨es,c,f.get hm hr,hh⟩
theorem JM.there {enc:α→Value} {m:Mem} {r:Nat} {l:List (α×Value)} (h:JM enc m r l):m r≠none:=by
 obtain ⟨es,c,hm,hh⟩:=h
 rw [hm];exact Option.some_ne_none _
theorem JM.nd {enc:α→Value} {m:Mem} {r:Nat} {l:List (α×Value)} (h:JM enc m r l):(zx l).Nodup:=by
 obtain ⟨es,c,hm,hh⟩:=h;exact hh.nd
theorem ao.len {enc:α→Value} {es:Array MapEntry} {c:Nat} {l:List (α×Value)} (h:ao enc es c l):es.size=l.length:=by
 have:=congrArg List.length h.kv
 simpa using this
theorem gv {ag:Bool} {ks:List LK} {enc:α→Value} (K:XB ag ks enc) (k:α):∀ (es:List MapEntry) (l:List (α×Value)) (i:Nat),
  es.map (fun e=>(e.key,e.val))=l.map (fun p=>(enc p.1,p.2))→Vj ag ks (enc k) es i=some (XN k l i)
 | [],l,i,h=>by
  cases l with
  | nil=>rfl
  | cons p r=>simp at h
 | e::es,l,i,h=>by
  cases l with
  | nil=>simp at h
  | cons p r =>
   simp only [List.map_cons,List.cons.injEq,Prod.mk.injEq] at h
   obtain ⟨⟨h1,h2⟩,h3⟩:=h
   simp only [Vj,XN,h1,h2,K.fit,K.eq,if_true,Option.bind_some,decide_eq_true_eq]
   split
   ·rfl
   ·exact gv K k es r (i+1) h3
theorem cV {k:α}:∀ {l:List (α×Value)} {i:Nat},XN k l i=none→k∉zx l
 | [],_,_=>by simp [zx]
 | p::r,i,h=>by
  simp only [XN] at h
  split at h
  ·cases h
  ·rename_i hn
   simp only [zx,List.map_cons,List.mem_cons,not_or]
   exact ⟨hn,cV h⟩
theorem VL {k:α}:∀ {l:List (α×Value)} {i j:Nat} {v:Value},XN k l i=some (j,v)→∃ n,j=i+n∧l[n]?=some (k,v)
 | [],_,_,_,h=>by simp [XN] at h
 | p::r,i,j,v,h=>by
  simp only [XN] at h
  split at h
  ·rename_i hk
   simp only [Option.some.injEq,Prod.mk.injEq] at h
   exact ⟨0,by omega,by rw [List.getElem?_cons_zero,hk,← h.2]⟩
  ·obtain ⟨n,hn,hg⟩:=VL h
   exact ⟨n+1,by omega,by simpa using hg⟩
theorem qxV {k:α} {l:List (α×Value)}:look k l=none↔k∉zx l:=by
 constructor
 ·intro h;exact cV (by simpa [look] using h)
 ·intro h
  cases hl:XN k l 0 with
  | none=>simp [look,hl]
  | some jv =>
   obtain ⟨n,_,hg⟩:=VL (v:=jv.2) (j:=jv.1) hl
   exact absurd (List.mem_map.2 ⟨_,List.mem_of_getElem? hg,rfl⟩) h
theorem qxK {k:α} {l:List (α×Value)} {v:Value} (h:look k l=some v):(k,v)∈l:=by
 cases hl:XN k l 0 with
 | none=>simp [look,hl] at h
 | some jv =>
  simp only [look,hl,Option.map_some,Option.some.injEq] at h
  obtain ⟨n,_,hg⟩:=VL (v:=jv.2) (j:=jv.1) hl
  rw [h] at hg
  exact List.mem_of_getElem? hg
section ops
variable {P:Program} {ag:Bool} {ks:List LK} {enc:α→Value} {m:Mem} {r:Nat} {l:List (α×Value)}
theorem qvx (K:XB ag ks enc) (h:JM enc m r l) (k:α) (zero:Value) (ok:Bool):rd (.lkp ag ks zero ok) [.map (some r),enc k] m =
  some (match look k l with | some v=>if ok then .tuple #[v,.bool true] else v | none=>if ok then .tuple #[zero,.bool false] else zero):=by
 obtain ⟨es,c,hm,hh⟩:=h
 show (if cL ag ks (enc k) then (entriesOf m (.map (some r))).bind _ else none)=_
 rw [if_pos (K.ok k)]
 simp only [entriesOf,hm,Option.bind_some,gv K k _ l 0 hh.kv,Option.map_some,look]
 cases XN k l 0 with
 | none=>rfl
 | some jv=>rfl
theorem qzY {k:α} {v:Value}:∀ {l:List (α×Value)} {n:Nat} {u:Value},(zx l).Nodup→l[n]?=some (k,u)→l.set n (k,v)=l.map fun p=>if p.1=k then (k,v) else p
 | [],n,u,_,h=>by simp at h
 | p::r,0,u,hn,h=>by
  simp only [List.getElem?_cons_zero,Option.some.injEq] at h
  subst h
  simp only [zx,List.map_cons,List.nodup_cons] at hn
  simp only [List.set_cons_zero,List.map_cons,if_true]
  congr 1
  refine (List.map_id' _).symm.trans (List.map_congr_left fun q hq=>?_)
  rw [if_neg]
  rintro rfl
  exact hn.1 (List.mem_map.2 ⟨q,hq,rfl⟩)
 | p::r,n+1,u,hn,h=>by
  simp only [List.getElem?_cons_succ] at h
  simp only [zx,List.map_cons,List.nodup_cons] at hn
  simp only [List.set_cons_succ,List.map_cons]
  rw [if_neg,qzY hn.2 h]
  intro e
  apply hn.1
  rw [e]
  exact List.mem_map.2 ⟨_,List.mem_of_getElem? h,rfl⟩
theorem erase_filter {k:α}:∀ {l:List (α×Value)} {n:Nat} {u:Value},(zx l).Nodup→l[n]?=some (k,u)→l.eraseIdx n=ue k l
 | [],n,u,_,h=>by simp at h
 | p::r,0,u,hn,h=>by
  simp only [List.getElem?_cons_zero,Option.some.injEq] at h
  subst h
  simp only [zx,List.map_cons,List.nodup_cons] at hn
  simp only [List.eraseIdx_cons_zero,ue,ne_eq,decide_not,List.filter_cons,decide_true,Bool.not_true,Bool.false_eq_true,if_false]
  refine (List.filter_eq_self.2 fun q hq=>?_).symm
  simp only [Bool.not_eq_true',decide_eq_false_iff_not]
  rintro rfl
  exact hn.1 (List.mem_map.2 ⟨q,hq,rfl⟩)
 | p::r,n+1,u,hn,h=>by
  simp only [List.getElem?_cons_succ] at h
  simp only [zx,List.map_cons,List.nodup_cons] at hn
  have hne:p.1≠k:=by
   intro e
   apply hn.1
   rw [e]
   exact List.mem_map.2 ⟨_,List.mem_of_getElem? h,rfl⟩
  simp only [List.eraseIdx_cons_succ,erase_filter hn.2 h]
  simp [ue,hne]
theorem Vi {β γ:Type} (f:β→γ):∀ (l:List β) (n:Nat),(l.eraseIdx n).map f=(l.map f).eraseIdx n
 | [],_=>rfl
 | _::_,0=>rfl
 | _::r,n+1=>by simp [Vi f r n]
theorem Li {k:α} {l:List (α×Value)} (h:k∉zx l):ue k l=l:=by
 refine List.filter_eq_self.2 fun q hq=>?_
 simp only [ne_eq,decide_not,Bool.not_eq_true',decide_eq_false_iff_not]
 rintro rfl
 exact h (List.mem_map.2 ⟨q,hq,rfl⟩)
theorem PT {k:α} {v:Value} {l:List (α×Value)}:zx (gW k v l)=if k∈zx l then zx l else zx l++[k]:=by
 unfold gW
 split
 ·simp only [zx,List.map_map]
  refine List.map_congr_left fun p _=>?_
  simp only [Function.comp]
  split
  ·rename_i e;exact e.symm
  ·rfl
 ·simp [zx]
theorem FD {k:α} {l:List (α×Value)}:zx (ue k l)=(zx l).filter (·≠k):=by
 unfold zx ue
 rw [List.filter_map];rfl
theorem pt (K:XB ag ks enc) (h:JM enc m r l) {k:α} {v:Value} {K':Value→Mem→Prop} {lk:Lk K'}
  (hK:∀ m',JM enc m' r (gW k v l)→Fr m m' [r]→(∀ b,m b=none→m' b=none)→K' undef m'):xsP P (.mup ag ks) [.map (some r),enc k,v] m K' lk:=by
 obtain ⟨es,c,hm,hh⟩:=h
 refine ⟨r,rfl,K.ok k,es,c,hm,XN k l 0,gv K k _ l 0 hh.kv,?_⟩
 have hnone:∀ o b,m b=none→(m.set r o) b=none:=fun o b hb=>by
  rw [Mem.set,if_neg];exact hb
  rintro rfl;rw [hm] at hb;cases hb
 cases hl:XN k l 0 with
 | none =>
  have hk:=cV hl
  refine hK _ ⟨_,_,by simp [Mem.set];exact ⟨rfl,rfl⟩,?_,?_,?_,?_⟩ (Fr.set (by simp)) (hnone _)
  ·simp [gW,hk,hh.kv]
  ·rw [PT,if_neg hk]
   exact List.nodup_append.2 ⟨hh.nd,by simp,fun a ha b hb=>by simp at hb;rintro rfl;exact hk (hb▸ha)⟩
  ·simp only [Array.toList_push,List.map_append,List.map_cons,List.map_nil]
   refine List.nodup_append.2 ⟨hh.bd,by simp,fun a ha b hb=>?_⟩
   simp only [List.mem_singleton] at hb
   obtain ⟨e,he,rfl⟩:=List.mem_map.1 ha
   have:=hh.lt e he
   omega
  ·intro e he
   simp only [Array.toList_push,List.mem_append,List.mem_singleton] at he
   rcases he with he | rfl
   ·have:=hh.lt e he;omega
   ·exact Nat.lt_succ_self _
 | some jv =>
  obtain ⟨j,u⟩:=jv
  obtain ⟨n,hj,hg⟩:=VL hl
  have hj:n=j:=by omega
  subst hj
  have hk:k∈zx l:=List.mem_map.2 ⟨_,List.mem_of_getElem? hg,rfl⟩
  have hlt:n < l.length:=(List.getElem?_eq_some_iff.1 hg).1
  have hlt':n < es.size:=by rw [hh.len];exact hlt
  have hset:(es.modify n fun e=>{ e with key:=enc k,val:=v }).toList=es.toList.set n { es[n] with key:=enc k,val:=v }:=by
   apply List.ext_getElem?
   intro i
   simp only [Array.getElem?_toList,Array.getElem?_modify,List.getElem?_set,Array.length_toList]
   split
   ·rename_i e;subst e;simp [hlt']
   ·rfl
  refine hK _ ⟨_,_,by simp [Mem.set];exact ⟨rfl,rfl⟩,?_,?_,?_,?_⟩ (Fr.set (by simp)) (hnone _)
  ·rw [hset,List.map_set,hh.kv]
   simp only [gW,if_pos hk]
   rw [← qzY hh.nd hg,List.map_set]
  ·rw [PT,if_pos hk];exact hh.nd
  ·rw [hset,List.map_set]
   have:(es.toList.map (·.born)).set n es[n].born=es.toList.map (·.born):=by
    apply List.ext_getElem?
    intro i
    rw [List.getElem?_set]
    split
    ·rename_i e;subst e;simp [hlt']
    ·rfl
   rw [this];exact hh.bd
  ·intro e he
   rw [hset] at he
   rcases List.mem_or_eq_of_mem_set he with he | rfl
   ·exact hh.lt e he
   ·exact hh.lt es[n] (by simp)
def xG (enc:α→Value) (m:Mem) (b r:Nat) (l:List (α×Value)) (done:List α):Prop :=
 ∃ es clock seen,m r=some (.map es clock)∧ao enc es clock l∧m b=some (.mapIter (some r) clock seen clock)∧done.Nodup∧(∀ x∈done,x∈zx l) ∧
  ∀ e∈es.toList,∀ x,e.key=enc x→(seen.contains e.born=true↔x∈done)
theorem xG.map {b:Nat} {done:List α} (h:xG enc m b r l done):JM enc m r l:=by
 obtain ⟨es,c,seen,hm,hh,_⟩:=h;exact ⟨es,c,hm,hh⟩
theorem xG.frame {b:Nat} {done:List α} {m':Mem} {S:List Nat} (h:xG enc m b r l done) (f:Fr m m' S) (hb:b∉S) (hr:r∉S):xG enc m' b r l done:=by
 obtain ⟨es,c,seen,hm,hh,hi,h1⟩:=h;exact ⟨es,c,seen,f.get hm hr,hh,f.get hi hb,h1⟩
theorem xG.there {b:Nat} {done:List α} (h:xG enc m b r l done):m b≠none:=by
 obtain ⟨es,c,seen,hm,hh,hi,h1⟩:=h;rw [hi];exact Option.some_ne_none _
theorem Ci (h:JM enc m r l) {K':Value→Mem→Prop} {lk:Lk K'}
  (hK:∀ b m',m b=none→xG enc m' b r l []→Fr m m' []→K' (.pointer (some ⟨b,0,none⟩)) m'):xsP P .rng [.map (some r)] m K' lk:=by
 obtain ⟨es,c,hm,hh⟩:=h
 refine ⟨es,c,hm,fun b hb=>hK b _ hb ⟨es,c,#[],?_,hh,by simp [Mem.set],by simp,by simp,fun e he x hx=>by simp⟩ (Fr.new _ hb)⟩
 rw [Mem.set,if_neg]
 ·exact hm
 ·rintro rfl;rw [hm] at hb;cases hb
theorem ao.at {es:Array MapEntry} {c:Nat} (h:ao enc es c l) {e:MapEntry} (he:e∈es.toList):∃ p∈l,e.key=enc p.1∧e.val=p.2:=by
 have:(e.key,e.val)∈l.map (fun p=>(enc p.1,p.2)):=by rw [← h.kv];exact List.mem_map.2 ⟨e,he,rfl⟩
 obtain ⟨p,hp,e1⟩:=List.mem_map.1 this
 simp only [Prod.mk.injEq] at e1
 exact ⟨p,hp,e1.1.symm,e1.2.symm⟩
theorem ao.key {es:Array MapEntry} {c:Nat} (h:ao enc es c l) {x:α} (hx:x∈zx l):∃ e∈es.toList,e.key=enc x:=by
 obtain ⟨p,hp,rfl⟩:=List.mem_map.1 hx
 have:(enc p.1,p.2)∈es.toList.map (fun e=>(e.key,e.val)):=by rw [h.kv];exact List.mem_map.2 ⟨p,hp,rfl⟩
 obtain ⟨e,he,e1⟩:=List.mem_map.1 this
 simp only [Prod.mk.injEq] at e1
 exact ⟨e,he,e1.1⟩
theorem EV {l:List MapEntry} (h:(l.map (·.born)).Nodup) {e e':MapEntry} (he:e∈l) (he':e'∈l) (hb:e.born=e'.born):e=e':=by
 induction l with
 | nil=>cases he
 | cons x r ih =>
  simp only [List.map_cons,List.nodup_cons] at h
  rcases List.mem_cons.1 he with rfl | h1<;>rcases List.mem_cons.1 he' with rfl | h2
  ·rfl
  ·exact absurd (List.mem_map.2 ⟨e',h2,hb.symm⟩) h.1
  ·exact absurd (List.mem_map.2 ⟨e,h1,hb⟩) h.1
  ·exact ih h.2 h1 h2
theorem ao.uniq {es:Array MapEntry} {c:Nat} (K:XB ag ks enc) (h:ao enc es c l) {e e':MapEntry} (he:e∈es.toList) (he':e'∈es.toList) (hk:e.key=e'.key):e=e':=by
 have hn:(es.toList.map (·.key)).Nodup:=by
  have h1:es.toList.map (·.key)=(zx l).map enc:=by
   have:=congrArg (List.map Prod.fst) h.kv
   simpa [zx,List.map_map,Function.comp_def] using this
  rw [h1]
  exact h.nd.map enc fun a b hab e=>hab (K.inj e)
 generalize es.toList=L at *
 induction L with
 | nil=>cases he
 | cons x r ih =>
  simp only [List.map_cons,List.nodup_cons] at hn
  rcases List.mem_cons.1 he with rfl | h1<;>rcases List.mem_cons.1 he' with rfl | h2
  ·rfl
  ·exact absurd (List.mem_map.2 ⟨e',h2,hk.symm⟩) hn.1
  ·exact absurd (List.mem_map.2 ⟨e,h1,hk⟩) hn.1
  ·exact ih h1 h2 hn.2
theorem Cs (K:XB ag ks enc) {b:Nat} {done:List α} (h:xG enc m b r l done) {K':Value→Mem→Prop} {lk:Lk K'}
  (hend:(zx l).Perm done→K' (.tuple #[.bool false]) m)
  (hnext:∀ k v m',(k,v)∈l→k∉done→xG enc m' b r l (done++[k])→rd .ent [.pointer (some ⟨b,0,none⟩)] m'=some (.tuple #[enc k,v])→Fr m m' [b]→(∀ b,m b=none→m' b=none)→K' (.tuple #[.bool true,enc k,v]) m') :
  xsP P .nxt [.pointer (some ⟨b,0,none⟩)] m K' lk:=by
 obtain ⟨es,c,seen,hm,hh,hi,hd,hsub,hs⟩:=h
 have hbr:b≠r:=by rintro rfl;rw [hm] at hi;cases hi
 refine ⟨rfl,some r,c,seen,c,hi,es,c,hm,?_,?_,?_⟩
 ·cases hes:es.toList with
  | nil=>simp [show es=#[] from by simpa using hes]
  | cons e r' =>
   have hlt:=hh.lt e (by rw [hes];exact List.mem_cons_self ..)
   have:es.all (fun x=>decide (x.born≥c))=false:=by
    rw [← Bool.not_eq_true,Array.all_eq_true_iff_forall_mem]
    intro hall
    have:=hall e (Array.mem_toList_iff.1 (by rw [hes];exact List.mem_cons_self ..))
    simp at this;omega
   rw [this];simp
 ·intro hall
  apply hend
  refine (List.perm_ext_iff_of_nodup hh.nd hd).2 fun x=>⟨fun hx=>?_,hsub x⟩
  obtain ⟨e,he,hk⟩:=hh.key hx
  refine (hs e he x hk).1 ?_
  cases hc:seen.contains e.born with
  | true=>rfl
  | false=>exact absurd (hh.lt e he) (hall e he hc)
 ·intro e he hc
  obtain ⟨p,hp,hk,hv⟩:=hh.at he
  have hnd:p.1∉done:=fun hx=>by
   have:=(hs e he p.1 hk).2 hx
   rw [hc] at this;cases this
  rw [hk,hv]
  refine hnext p.1 p.2 _ hp hnd ⟨es,c,seen.push e.born,?_,hh,by simp [Mem.set],?_,?_,?_⟩ ?_ (Fr.set (by simp)) ?_
  ·rw [Mem.set,if_neg (Ne.symm hbr)];exact hm
  ·exact List.nodup_append.2 ⟨hd,by simp,fun a ha b hb=>by simp at hb;rintro rfl;exact hnd (hb▸ha)⟩
  ·intro x hx
   rcases List.mem_append.1 hx with hx | hx
   ·exact hsub x hx
   ·simp only [List.mem_singleton] at hx;subst hx;exact List.mem_map.2 ⟨p,hp,rfl⟩
  ·intro e' he' x hx
   simp only [Array.contains_push,Bool.or_eq_true,beq_iff_eq,List.mem_append,List.mem_singleton,hs e' he' x hx]
   constructor
   ·rintro (h1 | h1)
    ·exact .inl h1
    ·have:=EV hh.bd he' he h1
     subst this
     exact .inr (K.inj (hx.symm.trans hk))
   ·rintro (h1 | h1)
    ·exact .inl h1
    ·subst h1
     exact .inr (congrArg (·.born) (hh.uniq K he' he (hx.trans hk.symm)))
  ·rw [show ∀ m a,rd .ent [.pointer (some a)] m=CD m a from fun _ _=>rfl]
   have hfind:es.find? (fun x=>x.born == e.born)=some e:=by
    rw [← Array.find?_toList]
    have hmem:=he
    have hbd:=hh.bd
    generalize es.toList=L at hmem hbd
    induction L with
    | nil=>cases hmem
    | cons x rr ih =>
     rw [List.find?_cons]
     by_cases hx:x.born=e.born
     ·simp only [hx,beq_self_eq_true]
      exact congrArg some (EV hbd (List.mem_cons_self ..) hmem hx)
     ·have:(x.born == e.born)=false:=by simpa using hx
      simp only [this]
      refine ih ?_ (List.nodup_cons.1 hbd).2
      rcases List.mem_cons.1 hmem with rfl | hm'
      ·exact absurd rfl hx
      ·exact hm'
   simp only [CD,if_true,Mem.set,Array.back?_push,if_neg (Ne.symm hbr),hm,hfind,Option.map_some,hk,hv]
  ·intro b' hb'
   rw [Mem.set,if_neg]
   ·exact hb'
   ·rintro rfl;rw [hi] at hb';cases hb'
theorem Rc (K:XB ag ks enc) {b:Nat} {done:List α} (h:xG enc m b r l done) {k:α} {K':Value→Mem→Prop} {lk:Lk K'}
  (hK:∀ m',xG enc m' b r (ue k l) (done.filter (·≠k))→Fr m m' [r]→(∀ b,m b=none→m' b=none)→K' (.tuple #[]) m'):xsP P (.dlt ag ks) [.map (some r),enc k] m K' lk:=by
 obtain ⟨es,c,seen,hm,hh,hi,hd,hsub,hs⟩:=h
 have hbr:b≠r:=by rintro rfl;rw [hm] at hi;cases hi
 refine ⟨K.ok k,es,c,hm,XN k l 0,gv K k _ l 0 hh.kv,?_⟩
 have hnone:∀ o b,m b=none→(m.set r o) b=none:=fun o b hb=>by
  rw [Mem.set,if_neg];exact hb
  rintro rfl;rw [hm] at hb;cases hb
 cases hl:XN k l 0 with
 | none =>
  have hk:=cV hl
  have hdk:done.filter (·≠k)=done:=List.filter_eq_self.2 fun x hx=>by simp;rintro rfl;exact hk (hsub _ hx)
  refine hK _ ⟨es,c,seen,by simp [Mem.set],?_,?_,?_,?_,?_⟩ (Fr.set (by simp)) (hnone _)
  ·rw [Li hk];exact hh
  ·rw [Mem.set,if_neg hbr];exact hi
  ·rw [hdk];exact hd
  ·rw [hdk,Li hk];exact hsub
  ·rw [hdk];exact hs
 | some jv =>
  obtain ⟨j,u⟩:=jv
  obtain ⟨n,hj,hg⟩:=VL hl
  have hj:n=j:=by omega
  subst hj
  have hlt:n < l.length:=(List.getElem?_eq_some_iff.1 hg).1
  have hlt':n < es.size:=by rw [hh.len];exact hlt
  have hset:(es.eraseIdxIfInBounds n).toList=es.toList.eraseIdx n:=by simp [Array.eraseIdxIfInBounds,hlt']
  refine hK _ ⟨_,_,seen,by simp [Mem.set];exact ⟨rfl,rfl⟩,⟨?_,?_,?_,?_⟩,?_,?_,?_,?_⟩ (Fr.set (by simp)) (hnone _)
  ·rw [hset,Vi,hh.kv,← erase_filter hh.nd hg,Vi]
  ·rw [FD];exact hh.nd.filter _
  ·rw [hset,Vi];exact hh.bd.sublist (List.eraseIdx_sublist _ _)
  ·intro e he
   rw [hset] at he
   exact hh.lt e ((List.eraseIdx_sublist _ _).subset he)
  ·rw [Mem.set,if_neg hbr];exact hi
  ·exact hd.filter _
  ·intro x hx
   rw [FD]
   rw [List.mem_filter] at hx ⊢
   exact ⟨hsub x hx.1,hx.2⟩
  ·intro e he x hx
   rw [hset] at he
   have he':=(List.eraseIdx_sublist _ _).subset he
   rw [hs e he' x hx,List.mem_filter]
   refine ⟨fun h=>⟨h,?_⟩,fun h=>h.1⟩
   simp only [ne_eq,decide_not,Bool.not_eq_true',decide_eq_false_iff_not]
   rintro rfl
   have hkeys:(es.toList.eraseIdx n).map (·.key)=(zx (ue x l)).map enc:=by
    have h1:(es.toList.eraseIdx n).map (fun e=>(e.key,e.val))=(ue x l).map (fun p=>(enc p.1,p.2)):=by
     rw [Vi,hh.kv,← erase_filter hh.nd hg,Vi]
    have:=congrArg (List.map Prod.fst) h1
    simpa [zx,List.map_map,Function.comp_def] using this
   have hmem:e.key∈(es.toList.eraseIdx n).map (·.key):=List.mem_map.2 ⟨e,he,rfl⟩
   rw [hkeys,FD] at hmem
   obtain ⟨y,hy,hye⟩:=List.mem_map.1 hmem
   rw [hx] at hye
   have:=K.inj hye
   subst this
   simp at hy
end ops
end Go.Fw
namespace Go.Fw
open Go
section
variable {P:Program} {L:Nat→Value} {E:Env} {σ:Env} {m:Mem} {K:Env→Mem→Prop} {Q:Exit→Env→Mem→Prop}
theorem qX {p:Prop} [Decidable p] (h:p):decide p=true:=decide_eq_true h
theorem qZ {p:Prop} [Decidable p] (h:¬ p):decide p=false:=decide_eq_false h
theorem rd_mv (v:Value):rd .mv [v] m=some v:=rfl
theorem qXK (ng:Bool) (ks:List LK) (xs ys:Array Value):rd (.eqc ng ks) [.agg xs,.agg ys] m=(qi ks xs.toList ys.toList).map fun b=>.bool (if ng then !b else b):=rfl
theorem vR:qi [] [] []=some true:=rfl
theorem jZ (k:LK) (ks:List LK) (x y:Value) (xs ys:List Value):qi (k::ks) (x::xs) (y::ys)=(le1 k x y).bind fun b=>(qi ks xs ys).map (b && ·):=rfl
theorem LZ (k:IntKind) (a b:Int):le1 (.i k) (.int k a) (.int k b)=some (decide (a=b)):=by
 simp only [le1,and_self,if_true];congr 1
theorem qvu (a b:Bool):le1 .b (.bool a) (.bool b)=some (decide (a=b)):=by
 simp only [le1];cases a<;>cases b<;>rfl
theorem qzF (a b:ByteArray):le1 .s (.string a) (.string b)=some (a.data.toList == b.data.toList):=rfl
theorem qXV (a:Option Addr) (n c:Nat):rd .cap [.slice a n c] m=some (.int .i64 c):=rfl
theorem qXJ (ng:Bool) (a:Option Nat):rd (.eqm ng) [.map a,.map none] m=some (.bool (if ng then a.isSome else a.isNone)):=rfl
theorem qXZ (ng:Bool) (a:Option Addr) (n c n' c':Nat):rd (.eqs ng) [.slice a n c,.slice none n' c'] m=some (.bool (if ng then a.isSome else a.isNone)):=rfl
theorem qJU (fn:Fn) (n:Nat) (vs:List Value):rd (.mkf fn n) vs m=some (.func fn (vs.take n).toArray (vs.drop n).toArray):=by
 cases vs<;>rfl
theorem qyG (n:Nat) (v:Value):rd (.lenk n) [v] m=some (.int .i64 n):=rfl
theorem qJV (K:Value→Mem→Prop) (l:Lk K):xsP P .mkm [] m K l=PC m (.map #[] 0) (fun b M=>K (.map (some b)) M) ⟨⟩ ⟨⟩:=rfl
theorem oD (f:Nat) (a c:Array Value) (vs:List Value) (K:Value→Mem→Prop) (l:Lk K):xsP P .callv (.func (.func f) a c::vs) m K l=rcQ (Ks P f=true) (xc P f (a.toList++vs++c.toList) m K l) ⟨⟩:=by
 simp only [xsP,xs,fP,xc,rcQ]
theorem qJX (b o:Nat) (K:Value→Mem→Prop) (l:Lk K):xsP P (.st 0) [.pointer (some ⟨b,o,none⟩),.agg #[]] m K l=K undef m:=by
 simp [xsP,xs,pP,Value.cells,zT]
attribute [go_sem] rd_mv qXK vR jZ LZ qvu qzF qXV qXJ qXZ qJU qyG qJV qJX
end
end Go.Fw
namespace Go.Fw
open Go
abbrev Hs (M:Mem):List (Nat×Obj)→Prop
 | []=>True
 | (b,o)::r=>M b=some o∧Hs M r
theorem Hs.mem {M:Mem}:∀ {G:List (Nat×Obj)},Hs M G→∀ p∈G,M p.1=some p.2
 | (b,o)::r,h,p,hp=>by
  rcases List.mem_cons.1 hp with rfl | hp
  ·exact h.1
  ·exact Hs.mem h.2 p hp
theorem Hs.of {M:Mem}:∀ {G:List (Nat×Obj)},(∀ p∈G,M p.1=some p.2)→Hs M G
 | [],_=>trivial
 | (b,o)::r,h=>⟨h (b,o) (List.mem_cons_self ..),Hs.of fun p hp=>h p (List.mem_cons_of_mem _ hp)⟩
structure Hp (m0 m:Mem) (S:List Nat) (G:List (Nat×Obj)):Prop where
 hs:Hs m G
 fr:Fr m0 m S
 nd:(G.map Prod.fst).Nodup
 nw:∀ p∈G,m0 p.1=none∧p.1∉S
 ex:∀ s∈S,m s≠none
section
variable {P:Program} {m0 m:Mem} {S:List Nat} {G:List (Nat×Obj)}
theorem Hp.refl (m:Mem) (S:List Nat) (h:∀ s∈S,m s≠none:=by simp):Hp m m S []:=⟨trivial,Fr.refl _ _,by simp,by simp,h⟩
theorem Hp.step (H:Hp m0 m S G) {M:Mem} {T:List Nat} (f:Fr m M T) (hT:∀ b∈T,b∈S) (hx:∀ b∈T,M b≠none):Hp m0 M S G :=
 ⟨Hs.of fun p hp=>f.get (H.hs.mem p hp) (fun h=>(H.nw p hp).2 (hT _ h)),H.fr.trans f fun x hx _=>hT x hx,H.nd,H.nw,fun s hs=>by
  by_cases h:s∈T
  ·exact hx s h
  ·exact f.some (H.ex s hs) h⟩
theorem Hp.DX (H:Hp m0 m S G) {M:Mem} (f:Fr m M []):Hp m0 M S G:=H.step f (by simp) (by simp)
theorem Hp.fresh (H:Hp m0 m S G) {b:Nat} (hb:m b=none):(m0 b=none∧b∉S)∧∀ p∈G,p.1≠b:=by
 have hS:b∉S:=fun h=>H.ex b h hb
 refine ⟨⟨?_,hS⟩,fun p hp e=>?_⟩
 ·cases h:m0 b with
  | none=>rfl
  | some o=>rw [H.fr.get h hS] at hb;cases hb
 ·have:=H.hs.mem p hp
  rw [e,hb] at this;cases this
theorem Hp.grow (H:Hp m0 m S G) {b:Nat} {o:Obj} (hb:m b=none):Hp m0 (m.set b o) S ((b,o)::G):=by
 obtain ⟨h1,h2⟩:=H.fresh hb
 have f:Fr m (m.set b o) []:=Fr.new _ hb
 have H':=H.DX f
 refine ⟨⟨Qd _ _,H'.hs⟩,H'.fr,?_,?_,H'.ex⟩
 ·simp only [List.map_cons,List.nodup_cons]
  refine ⟨fun hm=>?_,H.nd⟩
  obtain ⟨p,hp,e⟩:=List.mem_map.1 hm
  exact h2 p hp e
 ·intro p hp
  rcases List.mem_cons.1 hp with rfl | hp
  ·exact h1
  ·exact H.nw p hp
theorem Hp.wrS (H:Hp m0 m S G) {b:Nat} (x:Obj) (hS:b∈S):Hp m0 (m.set b x) S G :=
 H.step (T:=[b]) (Fr.set (by simp)) (by simpa using hS) (by simp [Mem.set])
theorem Hp.nw0 {b:Nat} {o:Obj} (H:Hp m0 m S ((b,o)::G)):m0 b=none∧b∉S:=H.nw (b,o) (List.mem_cons_self ..)
theorem Hp.nw1 {p:Nat×Obj} {b:Nat} {o:Obj} (H:Hp m0 m S (p::(b,o)::G)):m0 b=none∧b∉S:=H.nw (b,o) (List.mem_cons_of_mem _ (List.mem_cons_self ..))
theorem Hp.fA {p:Nat×Obj} (H:Hp m0 m S (p::G)):Hp m0 m S G :=
 ⟨H.hs.2,H.fr,(List.nodup_cons.1 H.nd).2,fun q hq=>H.nw q (List.mem_cons_of_mem _ hq),H.ex⟩
theorem Hp.nil (H:Hp m0 m S G):Hp m0 m S []:=⟨trivial,H.fr,by simp,by simp,H.ex⟩
theorem Hp.more (H:Hp m0 m S G) {T:List Nat} (h:∀ s∈S,s∈T) (hx:∀ s∈T,m s≠none) (hg:∀ p∈G,p.1∉T):Hp m0 m T G:=⟨H.hs,H.fr.sub h,H.nd,fun p hp=>⟨(H.nw p hp).1,hg p hp⟩,hx⟩
theorem Hp.at {i:Nat} {p:Nat×Obj} (H:Hp m0 m S G) (hi:G[i]?=some p):m p.1=some p.2:=H.hs.mem p (List.mem_of_getElem? hi)
theorem Hp.put (H:Hp m0 m S G) {i:Nat} {b:Nat} {o x:Obj} (hi:G[i]?=some (b,o)):Hp m0 (m.set b x) S (G.set i (b,x))∧Fr m (m.set b x) [b]:=by
 have hin:=List.mem_of_getElem? hi
 have f:Fr m (m.set b x) [b]:=Fr.set (by simp)
 refine ⟨⟨Hs.of fun p hp=>?_,H.fr.trans f ?_,?_,?_,fun s hs=>?_⟩,f⟩
 ·rcases List.mem_or_eq_of_mem_set hp with h | rfl
  ·by_cases e:p.1=b
   ·-- the one of this block stands at i alone
    obtain ⟨j,hj⟩:=List.mem_iff_getElem?.1 hp
    rw [List.getElem?_set] at hj
    split at hj
    ·split at hj
     ·cases hj;exact Qd _ _
     ·cases hj
    ·rename_i hne
     exfalso
     have h1:(G.map Prod.fst)[j]?=some b:=by rw [List.getElem?_map,hj];simp [e]
     have h2:(G.map Prod.fst)[i]?=some b:=by rw [List.getElem?_map,hi];rfl
     have hlt:i < (G.map Prod.fst).length:=(List.getElem?_eq_some_iff.1 h2).1
     exact hne ((List.getElem?_inj hlt H.nd).1 (h2.trans h1.symm))
   ·rw [TG _ _ _ e];exact H.hs.mem p h
  ·exact Qd _ _
 ·intro y hy hy0
  simp only [List.mem_singleton] at hy;subst hy
  exact absurd (H.nw _ hin).1 hy0
 ·have:(G.set i (b,x)).map Prod.fst=G.map Prod.fst:=by
   rw [List.map_set]
   apply List.ext_getElem?
   intro j
   rw [List.getElem?_set]
   split
   ·rename_i e;subst e
    rw [List.getElem?_map,hi]
    simp only [Option.map_some]
    rw [if_pos]
    rw [List.length_map];exact (List.getElem?_eq_some_iff.1 hi).1
   ·rfl
  rw [this];exact H.nd
 ·intro p hp
  rcases List.mem_or_eq_of_mem_set hp with h | rfl
  ·exact H.nw p h
  ·exact H.nw (b,o) hin
 ·by_cases e:s=b
  ·subst e;rw [Qd];exact Option.some_ne_none _
  ·rw [TG _ _ _ e];exact H.ex s hs
theorem zl {o:Obj} {J:Nat→Mem→Prop} {l:Lk J} {l':Lk m} (H:Hp m0 m S G) (k:∀ b M,m b=none→Fr m M []→Hp m0 M S ((b,o)::G)→J b M):PC m o J l l' :=
 fun b hb=>k b _ hb (Fr.new _ hb) (H.grow hb)
theorem qyq {b:Nat} {x o:Obj} {J:Mem→Prop} {l:Lk J} {l':Lk m} (i:Nat) (H:Hp m0 m S G) (hi:G[i]?=some (b,o)) (k:∀ M,Fr m M [b]→Hp m0 M S (G.set i (b,x))→J M):wrO m b x J l l' :=
 k _ (H.put hi).2 (H.put hi).1
theorem wr0 {b:Nat} {x o:Obj} {J:Mem→Prop} {l:Lk J} {l':Lk m} (H:Hp m0 m S ((b,o)::G)) (k:∀ M,Fr m M [b]→Hp m0 M S ((b,x)::G)→J M):wrO m b x J l l':=qyq 0 H rfl k
theorem wr1 {b:Nat} {p1:Nat×Obj} {x o:Obj} {J:Mem→Prop} {l:Lk J} {l':Lk m} (H:Hp m0 m S (p1::(b,o)::G)) (k:∀ M,Fr m M [b]→Hp m0 M S (p1::(b,x)::G)→J M):wrO m b x J l l':=qyq 1 H rfl k
theorem wr2 {b:Nat} {p1 p2:Nat×Obj} {x o:Obj} {J:Mem→Prop} {l:Lk J} {l':Lk m} (H:Hp m0 m S (p1::p2::(b,o)::G)) (k:∀ M,Fr m M [b]→Hp m0 M S (p1::p2::(b,x)::G)→J M):wrO m b x J l l':=qyq 2 H rfl k
theorem wr3 {b:Nat} {p1 p2 p3:Nat×Obj} {x o:Obj} {J:Mem→Prop} {l:Lk J} {l':Lk m} (H:Hp m0 m S (p1::p2::p3::(b,o)::G)) (k:∀ M,Fr m M [b]→Hp m0 M S (p1::p2::p3::(b,x)::G)→J M):wrO m b x J l l':=qyq 3 H rfl k
theorem st_H {b off:Nat} {c vs:List Value} {T:TypeId} {J:Mem→Prop} {l:Lk J} {l':Lk m} (i:Nat) (H:Hp m0 m S G) (hi:G[i]?=some (b,.cells c.toArray T (0,0))) (hl:off+vs.length≤c.length) (h1:vs.all Value.oneCell'=true)
  (k:∀ M,Fr m M [b]→Hp m0 M S (G.set i (b,.cells (c.take off++vs++c.drop (off+vs.length)).toArray T (0,0)))→J M):stQ m ⟨b,off,none⟩ 0 vs J l l':=by
 have h:=XG (t:=T) (b:=b) (o:=off) vs 0 m c (H.at hi) (by simpa using hl) (fun v hv=>List.all_eq_true.1 h1 v hv)
 refine ⟨_,h,k _ (H.put hi).2 ?_⟩
 have:=(H.put (x:=.cells (c.take off++vs++c.drop (off+vs.length)).toArray T (0,0)) hi).1
 simpa using this
theorem st0 {b off:Nat} {c vs:List Value} {T:TypeId} {J:Mem→Prop} {l:Lk J} {l':Lk m} (H:Hp m0 m S ((b,.cells c.toArray T (0,0))::G)) (hl:off+vs.length≤c.length) (h1:vs.all Value.oneCell'=true)
  (k:∀ M,Fr m M [b]→Hp m0 M S ((b,.cells (c.take off++vs++c.drop (off+vs.length)).toArray T (0,0))::G)→J M):stQ m ⟨b,off,none⟩ 0 vs J l l':=st_H 0 H rfl hl h1 k
theorem st1 {b off:Nat} {p1:Nat×Obj} {c vs:List Value} {T:TypeId} {J:Mem→Prop} {l:Lk J} {l':Lk m} (H:Hp m0 m S (p1::(b,.cells c.toArray T (0,0))::G)) (hl:off+vs.length≤c.length) (h1:vs.all Value.oneCell'=true)
  (k:∀ M,Fr m M [b]→Hp m0 M S (p1::(b,.cells (c.take off++vs++c.drop (off+vs.length)).toArray T (0,0))::G)→J M):stQ m ⟨b,off,none⟩ 0 vs J l l':=st_H 1 H rfl hl h1 k
theorem JN {b:Nat} {c vs:List Value} {T:TypeId} {J:Mem→Prop} {l:Lk J} {l':Lk m} (H:Hp m0 m S ((b,.cells c.toArray T (0,0))::G)) (hl:vs.length=c.length) (h1:vs.all Value.oneCell'=true)
  (k:∀ M,Fr m M [b]→Hp m0 M S ((b,.cells vs.toArray T (0,0))::G)→J M):stQ m ⟨b,0,none⟩ 0 vs J l l' :=
 st0 H (by omega) h1 fun M f H'=>k M f (by
  have:List.drop (0+vs.length) c=[]:=List.drop_eq_nil_iff.2 (by omega)
  rw [this] at H';simpa using H')
theorem XF {b:Nat} {p1:Nat×Obj} {c vs:List Value} {T:TypeId} {J:Mem→Prop} {l:Lk J} {l':Lk m} (H:Hp m0 m S (p1::(b,.cells c.toArray T (0,0))::G)) (hl:vs.length=c.length) (h1:vs.all Value.oneCell'=true)
  (k:∀ M,Fr m M [b]→Hp m0 M S (p1::(b,.cells vs.toArray T (0,0))::G)→J M):stQ m ⟨b,0,none⟩ 0 vs J l l' :=
 st1 H (by omega) h1 fun M f H'=>k M f (by
  have:List.drop (0+vs.length) c=[]:=List.drop_eq_nil_iff.2 (by omega)
  rw [this] at H';simpa using H')
theorem zI {f:Nat} {args:List Value} {V:Value} {K:Value→Mem→Prop} {l:Lk K} (H:Hp m0 m S G) (h:MC P f args m fun v M=>v=V∧Fr m M []) (k:∀ M,Fr m M []→Hp m0 M S G→K V M):xc P f args m K l :=
 xz h fun v M ⟨e,g⟩=>by subst e;exact k M g (H.DX g)
theorem wrS {b:Nat} {x:Obj} {J:Mem→Prop} {l:Lk J} {l':Lk m} (H:Hp m0 m S G) (hS:b∈S) (k:∀ M,M b=some x→Fr m M [b]→Hp m0 M S G→J M):wrO m b x J l l' :=
 k _ (Qd _ _) (Fr.set (by simp)) (H.wrS x hS)
def vlQ (E:Env) (m:Mem) (rvs:List RV) (acc:List Value) (R:Value→Mem→Prop) (_:Lk R):Prop:=∃ vs,yJ E m rvs=some vs∧R (Vn (acc++vs)) m
theorem qyk {E:Env} (acc:List Value) (R:Value→Mem→Prop) (l:Lk R):vlQ E m [] acc R l=post R (Vn acc) m ⟨⟩:=by simp [vlQ,yJ,post]
theorem qkZ {E:Env} (t:Nat) (r:List RV) (acc:List Value) (R:Value→Mem→Prop) (l:Lk R):vlQ E m (.qq t::r) acc R l=vlQ E m r (acc++[E.get t]) R ⟨⟩:=by
 apply propext
 simp only [vlQ,yJ,RV.val,Option.bind_some]
 constructor
 ·rintro ⟨vs,h,hr⟩
  obtain ⟨u,hu,rfl⟩:=Option.map_eq_some_iff.1 h
  exact ⟨u,hu,by simpa using hr⟩
 ·rintro ⟨vs,h,hr⟩
  exact ⟨E.get t::vs,by rw [h];rfl,by simpa using hr⟩
theorem qje {E:Env} (t n:Nat) (r:List RV) (acc:List Value) (R:Value→Mem→Prop) (l:Lk R):vlQ E m (.cells t n::r) acc R l=bO (rd (.lda n) [E.get t] m) (fun v=>vlQ E m r (acc++[v]) R ⟨⟩) ⟨⟩:=by
 apply propext
 simp only [vlQ,yJ,RV.val,bO,TQ]
 constructor
 ·rintro ⟨vs,h,hr⟩
  obtain ⟨v,hv,h⟩:=Option.bind_eq_some_iff.1 h
  obtain ⟨u,hu,rfl⟩:=Option.map_eq_some_iff.1 h
  exact ⟨v,hv,u,hu,by simpa using hr⟩
 ·rintro ⟨v,hv,vs,h,hr⟩
  exact ⟨v::vs,by rw [hv,Option.bind_some,h];rfl,by simpa using hr⟩
theorem qZV {E:Env} (a b c:RV) (rvs:List RV) (R:Value→Mem→Prop) (l:Lk R) (l':Lk E):Wa (a::b::c::rvs) R E m l l'=rcQ (jY E ((a::b::c::rvs).map RV.jB)=true) (vlQ E m (a::b::c::rvs) [] R ⟨⟩) ⟨⟩:=rfl
theorem qwW {E:Env} (t n:Nat) (c:RV) (R:Value→Mem→Prop) (l:Lk R) (l':Lk E):Wa [.cells t n,c] R E m l l'=rcQ (jY E ([.cells t n,c].map RV.jB)=true) (vlQ E m [.cells t n,c] [] R ⟨⟩) ⟨⟩:=rfl
theorem qwV {E:Env} (t n:Nat) (c:Nat) (R:Value→Mem→Prop) (l:Lk R) (l':Lk E):Wa [.qq c,.cells t n] R E m l l'=rcQ (jY E ([.qq c,.cells t n].map RV.jB)=true) (vlQ E m [.qq c,.cells t n] [] R ⟨⟩) ⟨⟩:=rfl
theorem OT (t:Nat):(RV.qq t).jB=t:=rfl
theorem Mz (t n:Nat):(RV.cells t n).jB=t:=rfl
theorem qyX (v:Value):Vn [v]=v:=rfl
theorem qyJ (a b:Value) (r:List Value):Vn (a::b::r)=.tuple (a::b::r).toArray:=rfl
theorem PW {b o n:Nat} (h:0 < n):rd (.lda n) [.pointer (some ⟨b,o,none⟩)] m=Fy (m b) o n:=by
 rw [Ux]
 cases hb:m b with
 | none=>cases n with
  | zero=>omega
  | succ n=>simp [jN,cA,xT,hb,cellAt,Fy]
 | some x=>cases x with
  | cells c T fr =>
   simp only [Fy]
   obtain ⟨c⟩:=c
   split
   ·rename_i hle
    rw [XO (l:=c) hb n 0 o (by simpa using hle)]
    simp
   ·rename_i hle
    have:∀ n i,¬ (o+i+n≤c.length)→jN m ⟨b,o,none⟩ i n=none∨n=0:=by
     intro n
     induction n with
     | zero=>intro i _;exact .inr rfl
     | succ n ih =>
      intro i hi
      left
      rw [jN,xT,cA,hb,JI]
      by_cases hlt:o+i < c.length
      ·simp only [List.getElem?_toArray,List.getElem?_eq_getElem hlt,Option.bind_some]
       rcases ih (i+1) (by omega) with h1 | h1
       ·rw [h1];rfl
       ·omega
      ·simp [Nat.le_of_not_lt hlt]
    rcases this n 0 (by simpa using hle) with h1 | h1
    ·rw [h1];rfl
    ·omega
  | _=>cases n with
   | zero=>omega
   | succ n=>simp [jN,cA,xT,hb,cellAt,Fy]
theorem qQg {l:List Value} {T:TypeId} {fr:Nat×Nat} {i n:Nat}:Fy (some (.cells l.toArray T fr)) i n=if i+n≤l.length then some (.agg ((l.drop i).take n).toArray) else none:=by
 simp only [Fy,List.size_toArray]
theorem qxH (x:Array Value):(Value.agg x).cells=x:=rfl
theorem qjF (a b:Value):rd .pick [.bool true,a,b] m=some a:=rfl
theorem qjG (a b:Value):rd .pick [.bool false,a,b] m=some b:=rfl
theorem PV (c x:Bool):rd .pick [.bool c,.bool x,.bool false] m=some (.bool (c && x)):=by cases c<;>rfl
theorem Uj (c x:Bool):rd .pick [.bool c,.bool true,.bool x] m=some (.bool (c || x)):=by cases c<;>rfl
theorem LQ (a b:Int) (ks:List LK) (xs ys:List Value):qi (.i .i64::ks) (.int .i64 a::xs) (.int .i64 b::ys)=(qi ks xs ys).map fun r=>decide (a=b) && r:=by
 rw [jZ,LZ,Option.bind_some]
theorem gQ_nt {b:Bool} {y n:Prop} {l:Lk y} {l':Lk n}:gQ (some (!b)) true y n l l'=gQ (some b) false y n l l':=by cases b<;>simp [gQ]
theorem gQ_nf {b:Bool} {y n:Prop} {l:Lk y} {l':Lk n}:gQ (some (!b)) false y n l l'=gQ (some b) true y n l l':=by cases b<;>simp [gQ]
theorem qxD {b:Bool} {y n:Prop} {l:Lk y} {l':Lk n}:bC (!b) y n l l'=bC b n y l' l:=by cases b<;>simp [bC,bP]
theorem qxr {α:Type} (a b:α) [Decidable (a=b)] [Decidable (a≠b)]:decide (a≠b)=!decide (a=b):=by by_cases h:a=b<;>simp [h]
attribute [go_sem] gQ_nt gQ_nf qxD qxr Bool.not_not List.toList_toArray
attribute [go_sem] qyk qkZ qje qZV qwW qwV OT Mz qyX qyJ PW qQg Nat.le_refl qxH qjF qjG PV Uj
attribute [go_sem] List.map_cons List.map_nil List.cons_append List.nil_append List.append_nil List.size_toArray List.length_append List.length_nil Bool.not_true Bool.not_false Bool.false_eq_true decide_true decide_false not_true not_false_eq_true if_true if_false Bool.or_false Bool.or_true Bool.true_or Bool.false_or Bool.and_false Bool.false_and
theorem Fr.less {a b:Mem} {S T:List Nat} (h:Fr a b S) (hs:∀ x∈S,a x≠none→x∈T):Fr a b T:=fun x hx hT=>h x hx (fun hS=>hT (hs x hS hx))
theorem qvU {m m':Mem} (f:Fr m m' []) {b:Nat} (h:m' b=none):m b=none:=by
 cases hb:m b with
 | none=>rfl
 | some o=>rw [f.xg hb] at h;cases h
theorem qZN {α:Type} [DecidableEq α] {enc:α→Value} {r:Nat} {l:List (α×Value)} {K:Value→Mem→Prop} {lk:Lk K} (H:Hp m0 m S G) (h:JM enc m r l)
  (k:∀ it N,m it=none→xG enc N it r l []→Fr m N []→Hp m0 N (it::S) G→m0 it=none→it∉S→it≠r→K (.pointer (some ⟨it,0,none⟩)) N):xsP P .rng [.map (some r)] m K lk:=by
 refine Ci h fun it N hit hI f=>?_
 obtain ⟨⟨h1,h2⟩,h3⟩:=H.fresh hit
 refine k it N hit hI f ((H.DX f).more (fun s hs=>List.mem_cons_of_mem _ hs) ?_ ?_) h1 h2 (by rintro rfl;exact h.there hit)
 ·intro s hs
  rcases List.mem_cons.1 hs with rfl | hs
  ·exact hI.there
  ·exact (H.DX f).ex s hs
 ·intro p hp hm
  rcases List.mem_cons.1 hm with e | hm
  ·exact h3 p hp e
  ·exact (H.nw p hp).2 hm
theorem qZT {α:Type} [DecidableEq α] {ag:Bool} {ks:List LK} {enc:α→Value} (KE:XB ag ks enc) {b r:Nat} {l:List (α×Value)} {done:List α} {K:Value→Mem→Prop} {lk:Lk K} (h:xG enc m b r l done) (H:Hp m0 m S G) (hS:b∈S)
  (hend:(zx l).Perm done→K (.tuple #[.bool false]) m)
  (hnext:∀ k v M,(k,v)∈l→k∉done→(done++[k]).length≤l.length→xG enc M b r l (done++[k])→rd .ent [.pointer (some ⟨b,0,none⟩)] M=some (.tuple #[enc k,v])→Fr m M [b]→Hp m0 M S G→K (.tuple #[.bool true,enc k,v]) M) :
  xsP P .nxt [.pointer (some ⟨b,0,none⟩)] m K lk:=by
 refine Cs KE h hend fun k v M hkv hk hI hent f hn=>hnext k v M hkv hk ?_ hI hent f (H.step f (by simpa using hS) (by simpa using hI.there))
 obtain ⟨es,c,seen,_,hh,_,hd,hsub,_⟩:=hI
 have:=hd.length_le_of_subset hsub
 simpa [zx] using this
end
end Go.Fw
namespace Go.Fw
open Go
instance:DecidableEq ByteArray:=fun a b=>decidable_of_iff (a.data=b.data) ⟨fun h=>by cases a;cases b;simp_all,fun h=>by rw [h]⟩
theorem CA (a b:ByteArray):le1 .s (.string a) (.string b)=some (decide (a=b)):=by
 rw [qzF]
 congr 1
 rw [Bool.eq_iff_iff]
 simp only [beq_iff_eq,decide_eq_true_eq]
 exact ⟨fun h=>by cases a;cases b;simp at h;rw [h],fun h=>by rw [h]⟩
attribute [-go_sem] qzF
attribute [go_sem] CA
theorem qjw (a b:ByteArray):(a.data.toList == b.data.toList)=decide (a=b):=by
 have:=CA a b;rw [qzF] at this;exact Option.some.inj this
theorem Uz {m:Mem} (a b:ByteArray):rd (.str .eql) [.string a,.string b] m=some (.bool (decide (a=b))):=by rw [← qjw];rfl
theorem Uq {m:Mem} (a b:ByteArray):rd (.str .neq) [.string a,.string b] m=some (.bool (!decide (a=b))):=by rw [← qjw];rfl
attribute [go_sem] Uz Uq
theorem qXk {m:Mem} (len size:Nat) (cs:Array Value) (k:IntKind) (i:Int) (h:0≤i∧i < len):rd (.idx len size) [.agg cs,.int k i] m=cs[i.toNat*size]?:=by
 show (if _ then _ else _)=_;rw [if_pos h]
theorem qyH {m:Mem} (s:ByteArray) (k:IntKind) (i:Int) (h:0≤i):rd .idxs [.string s,.int k i] m=(s[i.toNat]?).map fun b=>.int .u8 b.toNat:=by
 show (if _ then _ else _)=_;rw [if_pos h]
attribute [go_sem] qXk qyH
def pc (p:Int×Int):List Value:=[.int .i64 p.1,.int .i64 p.2]
abbrev pv (p:Int×Int):Value:=.agg (pc p).toArray
theorem Ek (p:Int×Int):(pc p).length=2:=rfl
theorem pc_0 (p:Int×Int):(pc p)[0]?=some (.int .i64 p.1):=rfl
theorem pc_1 (p:Int×Int):(pc p)[1]?=some (.int .i64 p.2):=rfl
theorem pc_s0 (p:Int×Int) (x:Int):(pc p).set 0 (.int .i64 x)=pc (x,p.2):=rfl
theorem pc_s1 (p:Int×Int) (x:Int):(pc p).set 1 (.int .i64 x)=pc (p.1,x):=rfl
theorem pc_fa (a b:Int):Value.agg (List.toArray [Value.int .i64 a,Value.int .i64 b])=.agg (pc (a,b)).toArray:=rfl
theorem pc_fl (a b:Int) (ps:List (Nat×Nat)) (vs:List Value):lay [Value.int .i64 a,Value.int .i64 b] ps vs=lay (pc (a,b)) ps vs:=rfl
theorem pc_fc (a b:Int) (t:TypeId) (fr:Nat×Nat):Obj.cells (List.toArray [Value.int .i64 a,Value.int .i64 b]) t fr=.cells (pc (a,b)).toArray t fr:=rfl
attribute [go_sem ↓] pc_fa pc_fl pc_fc
theorem qQk (p:Int×Int):(pc p).take 2=pc p:=rfl
theorem qQw (p:Int×Int) (a b:Int):lay (pc p) [(0,1),(1,1)] [.int .i64 a,.int .i64 b]=some (pc (a,b)):=rfl
theorem qQQ (p:Int×Int) (a:Int):lay (pc p) [(0,1)] [.int .i64 a]=some (pc (a,p.2)):=rfl
theorem qQy (p:Int×Int) (a:Int):lay (pc p) [(1,1)] [.int .i64 a]=some (pc (p.1,a)):=rfl
theorem qQv (p q:Int×Int):lay (pc p) [(0,2)] [.agg (pc q).toArray]=some (pc q):=rfl
attribute [go_sem] qQv
theorem pX (p q:Int×Int):qi [.i .i64,.i .i64] (pc p) (pc q)=some (decide (p=q)):=by
 simp only [pc,jZ,LZ,vR,Option.bind_some,Option.map_some,Bool.and_true]
 congr 1;rw [Bool.eq_iff_iff];simp [Prod.ext_iff]
theorem UQ (p:Int×Int):(pc p).all Value.oneCell'=true:=rfl
structure Cmd where
 kind:Int
 client:Int
 seq:Int
 key:ByteArray
 fin:ByteArray
 old:ByteArray
 val:ByteArray
 deriving DecidableEq
abbrev noB:ByteArray:=⟨#[]⟩
abbrev Cmd.zero:Cmd:=⟨0,0,0,noB,noB,noB,noB⟩
def Cmd.cs (c:Cmd):List Value:=[.int .i64 c.kind,.int .i64 c.client,.int .i64 c.seq,.string c.key,.string c.fin,.string c.old,.string c.val]
abbrev Cmd.v (c:Cmd):Value:=.agg c.cs.toArray
theorem Cmd.len (c:Cmd):c.cs.length=7:=rfl
theorem Cmd.g0 (c:Cmd):c.cs[0]?=some (.int .i64 c.kind):=rfl
theorem Cmd.g1 (c:Cmd):c.cs[1]?=some (.int .i64 c.client):=rfl
theorem Cmd.g2 (c:Cmd):c.cs[2]?=some (.int .i64 c.seq):=rfl
theorem Cmd.g3 (c:Cmd):c.cs[3]?=some (.string c.key):=rfl
theorem Cmd.g4 (c:Cmd):c.cs[4]?=some (.string c.fin):=rfl
theorem Cmd.g5 (c:Cmd):c.cs[5]?=some (.string c.old):=rfl
theorem Cmd.g6 (c:Cmd):c.cs[6]?=some (.string c.val):=rfl
theorem Cmd.s0 (c:Cmd) (x:Int):c.cs.set 0 (.int .i64 x)=({ c with kind:=x }:Cmd).cs:=rfl
theorem Cmd.s1 (c:Cmd) (x:Int):c.cs.set 1 (.int .i64 x)=({ c with client:=x }:Cmd).cs:=rfl
theorem Cmd.s2 (c:Cmd) (x:Int):c.cs.set 2 (.int .i64 x)=({ c with seq:=x }:Cmd).cs:=rfl
theorem Cmd.s3 (c:Cmd) (x:ByteArray):c.cs.set 3 (.string x)=({ c with key:=x }:Cmd).cs:=rfl
theorem Cmd.s4 (c:Cmd) (x:ByteArray):c.cs.set 4 (.string x)=({ c with fin:=x }:Cmd).cs:=rfl
theorem Cmd.s5 (c:Cmd) (x:ByteArray):c.cs.set 5 (.string x)=({ c with old:=x }:Cmd).cs:=rfl
theorem Cmd.s6 (c:Cmd) (x:ByteArray):c.cs.set 6 (.string x)=({ c with val:=x }:Cmd).cs:=rfl
theorem Cmd.all (c:Cmd):c.cs.take 7=c.cs:=rfl
theorem qVy (a b d:Int) (w x y z:ByteArray):Value.agg (List.toArray [Value.int .i64 a,.int .i64 b,.int .i64 d,.string w,.string x,.string y,.string z])=.agg ((Cmd.mk a b d w x y z).cs).toArray:=rfl
theorem qVv (a b d:Int) (w x y z:ByteArray) (ps:List (Nat×Nat)) (vs:List Value):lay [Value.int .i64 a,.int .i64 b,.int .i64 d,.string w,.string x,.string y,.string z] ps vs=lay ((Cmd.mk a b d w x y z).cs) ps vs:=rfl
theorem qVw (a b d:Int) (w x y z:ByteArray) (t:TypeId) (fr:Nat×Nat):Obj.cells (List.toArray [Value.int .i64 a,.int .i64 b,.int .i64 d,.string w,.string x,.string y,.string z]) t fr=.cells ((Cmd.mk a b d w x y z).cs).toArray t fr:=rfl
attribute [go_sem ↓] qVy qVv qVw
theorem Cmd.one (c:Cmd):c.cs.all Value.oneCell'=true:=rfl
theorem Cmd.eq (c d:Cmd):qi [.i .i64,.i .i64,.i .i64,.s,.s,.s,.s] c.cs d.cs=some (decide (c=d)):=by
 simp only [Cmd.cs,jZ,LZ,CA,vR,Option.bind_some,Option.map_some,Bool.and_true]
 congr 1;rw [Bool.eq_iff_iff];cases c;cases d;simp [and_assoc]
theorem Cmd.qvE (c:Cmd) (a:Int):lay c.cs [(0,1)] [.int .i64 a]=some ({ c with kind:=a }:Cmd).cs:=rfl
theorem Cmd.lay4 (c:Cmd) (a b d:Int) (k:ByteArray):lay c.cs [(0,1),(1,1),(2,1),(3,1)] [.int .i64 a,.int .i64 b,.int .i64 d,.string k]=some (Cmd.mk a b d k c.fin c.old c.val).cs:=rfl
theorem Cmd.VR (c d:Cmd):lay c.cs [(0,7)] [.agg d.cs.toArray]=some d.cs:=rfl
attribute [go_sem] Cmd.VR
theorem Cmd.vS (c:Cmd):lay c.cs [] []=some c.cs:=rfl
abbrev Dp:=Fin 7→Int
instance:DecidableEq (Fin 7→Int):=fun a b=>decidable_of_iff (∀ i,a i=b i) ⟨funext,fun h i=>by rw [h]⟩
def dv (d:Dp):List Value:=[.int .i64 (d 0),.int .i64 (d 1),.int .i64 (d 2),.int .i64 (d 3),.int .i64 (d 4),.int .i64 (d 5),.int .i64 (d 6)]
abbrev Dp.v (d:Dp):Value:=.agg (dv d).toArray
abbrev Dp.zero:Dp:=fun _=>0
def Dp.up (d:Dp) (k:Nat) (x:Int):Dp:=fun i=>if i.val=k then x else d i
theorem qKc (d:Dp):(dv d).length=7:=rfl
def Dp.g (d:Dp) (k:Nat):Int:=if h:k < 7 then d ⟨k,h⟩ else 0
theorem Dp.qKk (d:Dp) {k:Nat} (h:k < 7):d.g k=d ⟨k,h⟩:=by simp [Dp.g,h]
theorem Dp.qJk (d:Dp) (i:Fin 7):d i=d.g i.val:=by simp [Dp.g]
theorem Dp.rH {d e:Dp} (h:∀ k,k < 7→d.g k=e.g k):d=e:=funext fun i=>(d.qJk i).trans ((h i.val i.isLt).trans (e.qJk i).symm)
theorem Dp.tY (d:Dp) (k j:Nat) (x:Int):(Dp.up d k x).g j=if j=k∧j < 7 then x else d.g j:=by
 unfold Dp.g Dp.up
 by_cases h:j < 7<;>simp [h]
theorem Ng (d:Dp) (k:Nat) (h:k < 7):(dv d)[k]?=some (.int .i64 (d.g k)):=by
 match k,h with
 | 0,_ | 1,_ | 2,_ | 3,_ | 4,_ | 5,_ | 6,_=>rfl
theorem qww (d:Dp) (k:Nat) (x:Int) (h:k < 7):(dv d).set k (.int .i64 x)=dv (Dp.up d k x):=by
 match k,h with
 | 0,_ | 1,_ | 2,_ | 3,_ | 4,_ | 5,_ | 6,_=>rfl
theorem qKd (d:Dp):(dv d).take 7=dv d:=rfl
theorem qKb (d:Dp):(dv d).all Value.oneCell'=true:=rfl
theorem dv_fa:Value.agg (List.toArray [Value.int .i64 0,.int .i64 0,.int .i64 0,.int .i64 0,.int .i64 0,.int .i64 0,.int .i64 0])=.agg (dv Dp.zero).toArray:=rfl
theorem dv_fl (ps:List (Nat×Nat)) (vs:List Value):lay [Value.int .i64 0,.int .i64 0,.int .i64 0,.int .i64 0,.int .i64 0,.int .i64 0,.int .i64 0] ps vs=lay (dv Dp.zero) ps vs:=rfl
theorem dv_fc (t:TypeId) (fr:Nat×Nat):Obj.cells (List.toArray [Value.int .i64 0,.int .i64 0,.int .i64 0,.int .i64 0,.int .i64 0,.int .i64 0,.int .i64 0]) t fr=.cells (dv Dp.zero).toArray t fr:=rfl
attribute [go_sem ↓] dv_fa dv_fl dv_fc
theorem qwJ (d e:Dp):qi [.i .i64,.i .i64,.i .i64,.i .i64,.i .i64,.i .i64,.i .i64] (dv d) (dv e)=some (decide (d=e)):=by
 simp only [dv,jZ,LZ,vR,Option.bind_some,Option.map_some,Bool.and_true]
 congr 1;rw [Bool.eq_iff_iff]
 simp only [Bool.and_eq_true,decide_eq_true_eq]
 constructor
 ·rintro ⟨h0,h1,h2,h3,h4,h5,h6⟩
  funext i
  match i with
  | 0=>exact h0 | 1=>exact h1 | 2=>exact h2 | 3=>exact h3 | 4=>exact h4 | 5=>exact h5 | 6=>exact h6
 ·rintro rfl;simp
theorem qwZ (c:Dp):lay (dv c) [] []=some (dv c):=rfl
theorem qwQ (c:Dp) (x:Int):lay (dv c) [(0,1)] [.int .i64 x]=some (dv (Dp.up c 0 x)):=rfl
theorem qwy (c:Dp) (x y:Int):lay (dv c) [(0,1),(1,1)] [.int .i64 x,.int .i64 y]=some (dv (Dp.up (Dp.up c 0 x) 1 y)):=rfl
theorem qxB (x:Value) (l:List Value) (k:Nat):(x::l)[1+k]?=l[k]?:=by rw [Nat.add_comm];rfl
theorem qxA (x:Value) (l:List Value) (k:Nat) (v:Value):(x::l).set (1+k) v=x::l.set k v:=by rw [Nat.add_comm];rfl
attribute [go_sem] qxB qxA
structure Att where
 seq:Int
 deps:Dp
instance:DecidableEq Att:=fun a b=>decidable_of_iff (a.seq=b.seq∧a.deps=b.deps) ⟨fun h=>by cases a;cases b;simp_all,fun h=>by rw [h];exact ⟨rfl,rfl⟩⟩
abbrev Att.zero:Att:=⟨0,Dp.zero⟩
def Att.cs (a:Att):List Value:=.int .i64 a.seq::dv a.deps
abbrev Att.v (a:Att):Value:=.agg a.cs.toArray
theorem Att.len (a:Att):a.cs.length=8:=rfl
theorem Att.g0 (a:Att):a.cs[0]?=some (.int .i64 a.seq):=rfl
theorem Att.g1 (a:Att) (k:Nat) (h:k < 7):a.cs[1+k]?=some (.int .i64 (a.deps.g k)):=by
 rw [Nat.add_comm];exact Ng _ k h
theorem Att.s0 (a:Att) (x:Int):a.cs.set 0 (.int .i64 x)=({ a with seq:=x }:Att).cs:=rfl
theorem Att.s1 (a:Att) (k:Nat) (x:Int) (h:k < 7):a.cs.set (1+k) (.int .i64 x)=({ a with deps:=Dp.up a.deps k x }:Att).cs:=by
 rw [Nat.add_comm];show _::(dv a.deps).set k _=_;rw [qww _ _ _ h];rfl
theorem Att.all (a:Att):a.cs.take 8=a.cs:=rfl
theorem Att.sub (a:Att):(a.cs.drop 1).take 7=dv a.deps:=rfl
theorem Att.put (a:Att) (d:Dp):a.cs.take 1++(dv d++a.cs.drop 8)=({ a with deps:=d }:Att).cs:=rfl
theorem qVV:Value.agg (List.toArray [Value.int .i64 0,.int .i64 0,.int .i64 0,.int .i64 0,.int .i64 0,.int .i64 0,.int .i64 0,.int .i64 0])=.agg (Att.zero.cs).toArray:=rfl
theorem qVX (ps:List (Nat×Nat)) (vs:List Value):lay [Value.int .i64 0,.int .i64 0,.int .i64 0,.int .i64 0,.int .i64 0,.int .i64 0,.int .i64 0,.int .i64 0] ps vs=lay (Att.zero.cs) ps vs:=rfl
theorem qVK (t:TypeId) (fr:Nat×Nat):Obj.cells (List.toArray [Value.int .i64 0,.int .i64 0,.int .i64 0,.int .i64 0,.int .i64 0,.int .i64 0,.int .i64 0,.int .i64 0]) t fr=.cells (Att.zero.cs).toArray t fr:=rfl
attribute [go_sem ↓] qVV qVX qVK
theorem Att.one (a:Att):a.cs.all Value.oneCell'=true:=rfl
theorem Att.eq (a b:Att):qi [.i .i64,.i .i64,.i .i64,.i .i64,.i .i64,.i .i64,.i .i64,.i .i64] a.cs b.cs=some (decide (a=b)):=by
 rw [Att.cs,Att.cs,LQ,qwJ,Option.map_some]
 congr 1;rw [Bool.eq_iff_iff];cases a;cases b;simp
theorem Att.VR (c d:Att):lay c.cs [(0,8)] [.agg d.cs.toArray]=some d.cs:=rfl
attribute [go_sem] Att.VR
theorem Att.vS (c:Att):lay c.cs [] []=some c.cs:=rfl
theorem Att.qvE (c:Att) (x:Int):lay c.cs [(0,1)] [.int .i64 x]=some ({ c with seq:=x }:Att).cs:=rfl
theorem Att.lay1 (c:Att) (d:Dp):lay c.cs [(1,7)] [.agg (dv d).toArray]=some ({ c with deps:=d }:Att).cs:=rfl
theorem Att.qXM (c:Att) (x:Int) (d:Dp):lay c.cs [(0,1),(1,7)] [.int .i64 x,.agg (dv d).toArray]=some (Att.mk x d).cs:=rfl
structure Cel where
 st:Int
 pr:Int×Int
 vo:Int×Int
 cmd:Cmd
 att:Att
 same:Bool
 deriving DecidableEq
abbrev Cel.zero:Cel:=⟨0,(0,0),(0,0),Cmd.zero,Att.zero,false⟩
def Cel.cs (c:Cel):List Value:=.int .i64 c.st::(pc c.pr++(pc c.vo++(c.cmd.cs++(c.att.cs++[.bool c.same]))))
abbrev Cel.v (c:Cel):Value:=.agg c.cs.toArray
theorem Cel.len (c:Cel):c.cs.length=21:=rfl
theorem Cel.g0 (c:Cel):c.cs[0]?=some (.int .i64 c.st):=rfl
theorem Cel.g1 (c:Cel):c.cs[1]?=some (.int .i64 c.pr.1):=rfl
theorem Cel.g2 (c:Cel):c.cs[2]?=some (.int .i64 c.pr.2):=rfl
theorem Cel.g3 (c:Cel):c.cs[3]?=some (.int .i64 c.vo.1):=rfl
theorem Cel.g4 (c:Cel):c.cs[4]?=some (.int .i64 c.vo.2):=rfl
theorem Cel.g5 (c:Cel):c.cs[5]?=some (.int .i64 c.cmd.kind):=rfl
theorem Cel.g6 (c:Cel):c.cs[6]?=some (.int .i64 c.cmd.client):=rfl
theorem Cel.g7 (c:Cel):c.cs[7]?=some (.int .i64 c.cmd.seq):=rfl
theorem Cel.g8 (c:Cel):c.cs[8]?=some (.string c.cmd.key):=rfl
theorem Cel.g9 (c:Cel):c.cs[9]?=some (.string c.cmd.fin):=rfl
theorem Cel.g10 (c:Cel):c.cs[10]?=some (.string c.cmd.old):=rfl
theorem Cel.g11 (c:Cel):c.cs[11]?=some (.string c.cmd.val):=rfl
theorem Cel.g12 (c:Cel):c.cs[12]?=some (.int .i64 c.att.seq):=rfl
theorem Cel.g20 (c:Cel):c.cs[20]?=some (.bool c.same):=rfl
theorem Cel.all (c:Cel):c.cs.take 21=c.cs:=rfl
theorem Cel.qJt (c:Cel):(c.cs.drop 1).take 2=pc c.pr:=rfl
theorem Cel.LP (c:Cel):(c.cs.drop 3).take 2=pc c.vo:=rfl
theorem Cel.Qi (c:Cel):(c.cs.drop 5).take 7=c.cmd.cs:=rfl
theorem Cel.Yk (c:Cel):(c.cs.drop 12).take 8=c.att.cs:=rfl
theorem Cel.DJ (c:Cel):(c.cs.drop 13).take 7=dv c.att.deps:=rfl
theorem Cel.s0 (c:Cel) (x:Int):c.cs.set 0 (.int .i64 x)=({ c with st:=x }:Cel).cs:=rfl
theorem Cel.s20 (c:Cel) (x:Bool):c.cs.set 20 (.bool x)=({ c with same:=x }:Cel).cs:=rfl
theorem Cel.qXh (c:Cel) (p:Int×Int):c.cs.take 1++(pc p++c.cs.drop 3)=({ c with pr:=p }:Cel).cs:=rfl
theorem Cel.qXg (c:Cel) (p:Int×Int):c.cs.take 3++(pc p++c.cs.drop 5)=({ c with vo:=p }:Cel).cs:=rfl
theorem Cel.Vb (c:Cel) (p:Cmd):c.cs.take 5++(p.cs++c.cs.drop 12)=({ c with cmd:=p }:Cel).cs:=rfl
theorem Cel.pJ (c:Cel) (p:Att):c.cs.take 12++(p.cs++c.cs.drop 20)=({ c with att:=p }:Cel).cs:=rfl
theorem Cel.one (c:Cel):c.cs.all Value.oneCell'=true:=rfl
theorem qVJ:Value.agg (List.toArray [Value.int .i64 0,.int .i64 0,.int .i64 0,.int .i64 0,.int .i64 0,.int .i64 0,.int .i64 0,.int .i64 0,.string noB,.string noB,.string noB,.string noB,.int .i64 0,.int .i64 0,.int .i64 0,.int .i64 0,.int .i64 0,.int .i64 0,.int .i64 0,.int .i64 0,.bool false])=.agg (Cel.zero.cs).toArray:=rfl
theorem qVQ (ps:List (Nat×Nat)) (vs:List Value):lay [Value.int .i64 0,.int .i64 0,.int .i64 0,.int .i64 0,.int .i64 0,.int .i64 0,.int .i64 0,.int .i64 0,.string noB,.string noB,.string noB,.string noB,.int .i64 0,.int .i64 0,.int .i64 0,.int .i64 0,.int .i64 0,.int .i64 0,.int .i64 0,.int .i64 0,.bool false] ps vs=lay (Cel.zero.cs) ps vs:=rfl
theorem qVZ (t:TypeId) (fr:Nat×Nat):Obj.cells (List.toArray [Value.int .i64 0,.int .i64 0,.int .i64 0,.int .i64 0,.int .i64 0,.int .i64 0,.int .i64 0,.int .i64 0,.string noB,.string noB,.string noB,.string noB,.int .i64 0,.int .i64 0,.int .i64 0,.int .i64 0,.int .i64 0,.int .i64 0,.int .i64 0,.int .i64 0,.bool false]) t fr=.cells (Cel.zero.cs).toArray t fr:=rfl
attribute [go_sem ↓] qVJ qVQ qVZ
theorem Cel.VR (c d:Cel):lay c.cs [(0,21)] [.agg d.cs.toArray]=some d.cs:=rfl
attribute [go_sem] Cel.VR
theorem Cel.vS (c:Cel):lay c.cs [] []=some c.cs:=rfl
theorem Cel.qvE (c:Cel) (x:Int):lay c.cs [(0,1)] [.int .i64 x]=some ({ c with st:=x }:Cel).cs:=rfl
theorem Cel.qXL (c:Cel) (p:Int×Int):lay c.cs [(1,2)] [.agg (pc p).toArray]=some ({ c with pr:=p }:Cel).cs:=rfl
theorem Xh:∀ (k1:List LK) {k2:List LK} {x1 y1 x2 y2:List Value} {r:Bool},qi k1 x1 y1=some r→qi (k1++k2) (x1++x2) (y1++y2)=(qi k2 x2 y2).map fun s=>r && s
 | [],k2,[],[],x2,y2,r,h=>by
  simp only [qi,Option.some.injEq] at h;subst h
  simp
 | k::ks,k2,x::xs,y::ys,x2,y2,r,h=>by
  rw [jZ] at h
  obtain ⟨b,hb,h⟩:=Option.bind_eq_some_iff.1 h
  obtain ⟨s,hs,rfl⟩:=Option.map_eq_some_iff.1 h
  rw [List.cons_append,List.cons_append,List.cons_append,jZ,hb,Option.bind_some,Xh ks hs,Option.map_map]
  congr 1;funext q;simp [Bool.and_assoc]
 | [],_,[],_::_,_,_,_,h | [],_,_::_,[],_,_,_,h | [],_,_::_,_::_,_,_,_,h | _::_,_,[],[],_,_,_,h | _::_,_,[],_::_,_,_,_,h | _::_,_,_::_,[],_,_,_,h=>by simp [qi] at h
theorem Cel.eq (c d:Cel):qi [.i .i64,.i .i64,.i .i64,.i .i64,.i .i64,.i .i64,.i .i64,.i .i64,.s,.s,.s,.s,.i .i64,.i .i64,.i .i64,.i .i64,.i .i64,.i .i64,.i .i64,.i .i64,.b] c.cs d.cs=some (decide (c=d)):=by
 rw [Cel.cs,Cel.cs,LQ]
 have h5:qi [.b] [.bool c.same] [.bool d.same]=some (decide (c.same=d.same)):=by rw [jZ,qvu];simp [vR]
 have h4:=Xh (k2:=[.b]) (x2:=[.bool c.same]) (y2:=[.bool d.same]) _ (Att.eq c.att d.att)
 rw [h5,Option.map_some] at h4
 have h3:=Xh (k2:=[.i .i64,.i .i64,.i .i64,.i .i64,.i .i64,.i .i64,.i .i64,.i .i64,.b]) (x2:=c.att.cs++[.bool c.same]) (y2:=d.att.cs++[.bool d.same]) _ (Cmd.eq c.cmd d.cmd)
 rw [show qi [.i .i64,.i .i64,.i .i64,.i .i64,.i .i64,.i .i64,.i .i64,.i .i64,.b] _ _=_ from h4,Option.map_some] at h3
 have h2:=Xh (k2:=[.i .i64,.i .i64,.i .i64,.s,.s,.s,.s,.i .i64,.i .i64,.i .i64,.i .i64,.i .i64,.i .i64,.i .i64,.i .i64,.b]) (x2:=c.cmd.cs++(c.att.cs++[.bool c.same])) (y2:=d.cmd.cs++(d.att.cs++[.bool d.same])) _ (pX c.vo d.vo)
 rw [show qi [.i .i64,.i .i64,.i .i64,.s,.s,.s,.s,.i .i64,.i .i64,.i .i64,.i .i64,.i .i64,.i .i64,.i .i64,.i .i64,.b] _ _=_ from h3,Option.map_some] at h2
 have h1:=Xh (k2:=[.i .i64,.i .i64,.i .i64,.i .i64,.i .i64,.s,.s,.s,.s,.i .i64,.i .i64,.i .i64,.i .i64,.i .i64,.i .i64,.i .i64,.i .i64,.b]) (x2:=pc c.vo++(c.cmd.cs++(c.att.cs++[.bool c.same]))) (y2:=pc d.vo++(d.cmd.cs++(d.att.cs++[.bool d.same]))) _ (pX c.pr d.pr)
 rw [show qi [.i .i64,.i .i64,.i .i64,.i .i64,.i .i64,.s,.s,.s,.s,.i .i64,.i .i64,.i .i64,.i .i64,.i .i64,.i .i64,.i .i64,.i .i64,.b] _ _=_ from h2,Option.map_some] at h1
 rw [show qi [.i .i64,.i .i64,.i .i64,.i .i64,.i .i64,.i .i64,.i .i64,.s,.s,.s,.s,.i .i64,.i .i64,.i .i64,.i .i64,.i .i64,.i .i64,.i .i64,.i .i64,.b] _ _=_ from h1,Option.map_some]
 congr 1;rw [Bool.eq_iff_iff];cases c;cases d;simp [and_assoc]
attribute [go_sem] Ek pc_0 pc_1 pc_s0 pc_s1 qQk qQw qQQ qQy pX UQ
attribute [go_sem] Cmd.len Cmd.g0 Cmd.g1 Cmd.g2 Cmd.g3 Cmd.g4 Cmd.g5 Cmd.g6 Cmd.s0 Cmd.s1 Cmd.s2 Cmd.s3 Cmd.s4 Cmd.s5 Cmd.s6 Cmd.all Cmd.one Cmd.eq Cmd.qvE Cmd.lay4 Cmd.vS
attribute [go_sem] qKc Ng qww qKd qKb qwJ qwZ qwQ qwy
attribute [go_sem] Att.len Att.g0 Att.g1 Att.s0 Att.s1 Att.all Att.sub Att.put Att.one Att.eq Att.vS Att.qvE Att.lay1 Att.qXM
attribute [go_sem] Cel.len Cel.g0 Cel.g1 Cel.g2 Cel.g3 Cel.g4 Cel.g5 Cel.g6 Cel.g7 Cel.g8 Cel.g9 Cel.g10 Cel.g11 Cel.g12 Cel.g20 Cel.all Cel.qJt Cel.LP Cel.Qi Cel.Yk Cel.DJ Cel.s0 Cel.s20 Cel.qXh Cel.qXg Cel.Vb Cel.pJ Cel.one Cel.eq Cel.vS Cel.qvE Cel.qXL
attribute [go_sem] List.append_assoc Nat.reduceAdd Nat.reduceSub Nat.reduceLeDiff
end Go.Fw
namespace Go.Fw
open Go
section
variable {α:Type} {k:Nat} {enc:α→List Value} {P:Program}
theorem jI (hk:∀ x,(enc x).length=k):∀ l:List α,(l.flatMap enc).length=l.length*k
 | []=>by simp
 | x::r=>by rw [List.flatMap_cons,List.length_append,hk,jI hk r,List.length_cons,Nat.add_mul];omega
theorem qwq (hk:∀ x,(enc x).length=k):∀ (l:List α) (i j:Nat) (hi:i < l.length),j < k→(l.flatMap enc)[i*k+j]?=(enc l[i])[j]?
 | x::r,0,j,hi,hj=>by
  rw [List.flatMap_cons,Nat.zero_mul,Nat.zero_add,List.getElem?_append_left (by rw [hk];exact hj)];rfl
 | x::r,i+1,j,hi,hj=>by
  have:=qwq hk r i j (by simpa using hi) hj
  rw [List.flatMap_cons,List.getElem?_append_right (by rw [hk,Nat.add_mul];omega),hk,Nat.add_mul,Nat.one_mul]
  rw [show i*k+k+j - k=i*k+j from by omega,this];rfl
def RdS (k:Nat) (enc:α→List Value) (m:Mem) (v:Value) (l:List α):Prop:=(∀ x,(enc x).length=k)∧∃ a c,v=.slice a l.length c∧l.length≤c∧Rd1 m a (l.flatMap enc)
theorem RdS.frame {m m':Mem} {v:Value} {l:List α} (h:RdS k enc m v l) (f:Fr m m' []):RdS k enc m' v l:=by
 obtain ⟨hk,a,c,e,hc,hr⟩:=h;exact ⟨hk,a,c,e,hc,hr.frame f⟩
theorem RdS.form {m:Mem} {v:Value} {l:List α} (h:RdS k enc m v l):∃ a c,v=.slice a l.length c:=by
 obtain ⟨_,a,c,e,_⟩:=h;exact ⟨a,c,e⟩
theorem Nz {m:Mem} {b:Nat}:∀ (xs:List Value) (o i:Nat),(∀ j (hj:j < xs.length),cellAt (m b) (o+i+j)=some xs[j])→jN m ⟨b,o,none⟩ i xs.length=some xs
 | [],o,i,_=>by simp [jN]
 | x::r,o,i,h=>by
  have h0:=h 0 (by simp)
  simp only [Nat.add_zero,List.getElem_cons_zero] at h0
  rw [List.length_cons,jN,xT,cA,h0,Option.bind_some,Nz r o (i+1) (fun j hj=>by
   have:=h (j+1) (by simpa using hj)
   rw [show o+(i+1)+j=o+i+(j+1) from by omega,this];rfl)]
  rfl
theorem RdS.at {m:Mem} {a:Option Addr} {c i:Nat} {l:List α} (h:RdS k enc m (.slice a l.length c) l) (hi:i < l.length) (k0:0 < k) :
  ∃ b o,a=some ⟨b,o,none⟩∧rd (.lda k) [.pointer (some ⟨b,o+i*k,none⟩)] m=some (.agg (enc l[i]).toArray)∧∀ j x,(enc l[i])[j]?=some x→cellAt (m b) (o+i*k+j)=some x:=by
 obtain ⟨hk,a',c',e,_,hr⟩:=h
 cases e
 rcases hr with h | ⟨b,o,rfl,hc⟩
 ·have:=jI hk l
  rw [h] at this
  have:=Nat.mul_pos (Nat.lt_of_le_of_lt (Nat.zero_le _) hi) k0
  simp at *;omega
 ·have hcell:∀ j x,(enc l[i])[j]?=some x→cellAt (m b) (o+i*k+j)=some x:=fun j x hx=>by
   have hj:j < k:=by
    have:=(List.getElem?_eq_some_iff.1 hx).1;rwa [hk] at this
   rw [Nat.add_assoc]
   exact hc _ _ (by rw [qwq hk l i j hi hj];exact hx)
  refine ⟨b,o,rfl,?_,hcell⟩
  rw [Ux]
  have:=Nz (m:=m) (b:=b) (enc l[i]) (o+i*k) 0 (fun j hj=>by rw [Nat.add_zero];exact hcell j _ (List.getElem?_eq_getElem hj))
  rw [hk] at this
  rw [this];rfl
theorem RdS.el {m:Mem} {a:Option Addr} {c i:Nat} {l:List α} (h:RdS k enc m (.slice a l.length c) l) (hi:i < l.length) (k0:0 < k) :
  ∃ b o,(∀ (kd:IntKind) (M:Mem),rd (.ixs k) [.slice a l.length c,.int kd (i:Int)] M=some (.pointer (some ⟨b,o,none⟩)))∧rd (.lda k) [.pointer (some ⟨b,o,none⟩)] m=some (.agg (enc l[i]).toArray)∧∀ j x,(enc l[i])[j]?=some x→cellAt (m b) (o+j)=some x:=by
 obtain ⟨b,o,rfl,h1,h2⟩:=h.at hi k0
 refine ⟨b,o+i*k,fun kd M=>?_,h1,h2⟩
 rw [qvk _ _ _ _ _ _ (by omega),Int.toNat_natCast,xT]
structure El (k:Nat) (enc:α→List Value) (m:Mem) (b o:Nat) (x:α):Prop where
 len:(enc x).length=k
 cell:∀ j v,(enc x)[j]?=some v→cellAt (m b) (o+j)=some v
theorem El.frame {m m':Mem} {b o:Nat} {x:α} (h:El k enc m b o x) (f:Fr m m' []):El k enc m' b o x:=⟨h.len,fun j v hv=>f.cellAt (h.cell j v hv) (by simp)⟩
theorem El.ld {m:Mem} {b o:Nat} {x:α} (h:El k enc m b o x) (j:Nat) (hj:j < k):cellAt (m b) (o+j)=(enc x)[j]?:=by
 have hl:=h.len
 rw [List.getElem?_eq_getElem (by omega),h.cell j _ (List.getElem?_eq_getElem (by omega))]
theorem El.ld0 {m:Mem} {b o:Nat} {x:α} (h:El k enc m b o x) (hj:0 < k):cellAt (m b) o=(enc x)[0]?:=h.ld 0 hj
theorem El.lda {m:Mem} {b o:Nat} {x:α} (h:El k enc m b o x) (j n:Nat) (h0:0 < n) (hj:j+n≤k):Fy (m b) (o+j) n=some (.agg ((((enc x).drop j).take n).toArray)):=by
 rw [← PW h0,Ux]
 have hl:=h.len
 have hlen:(((enc x).drop j).take n).length=n:=by simp;omega
 have:=Nz (m:=m) (b:=b) (((enc x).drop j).take n) (o+j) 0 (fun i hi=>by
  rw [Nat.add_zero,Nat.add_assoc,h.ld (j+i) (by omega),← List.getElem?_eq_getElem hi,List.getElem?_take,if_pos (by omega),List.getElem?_drop])
 rw [hlen] at this
 rw [this];rfl
theorem El.uZ {m:Mem} {b o:Nat} {x:α} (h:El k enc m b o x) (n:Nat) (h0:0 < n) (hj:n≤k):Fy (m b) o n=some (.agg (((enc x).take n).toArray)):=by
 have:=h.lda 0 n h0 (by omega)
 simpa using this
abbrev IxAt (k:Nat) (v:Value) (i:Nat) (b o:Nat):Prop:=∀ (kd:IntKind) (M:Mem),rd (.ixs k) [v,.int kd (i:Int)] M=some (.pointer (some ⟨b,o,none⟩))
theorem RdS.elK {G:Prop} {m:Mem} {a:Option Addr} {c i:Nat} {l:List α} (h:RdS k enc m (.slice a l.length c) l) (hi:i < l.length) (k0:0 < k)
  (K:∀ b o x,l[i]?=some x→IxAt k (.slice a l.length c) i b o→El k enc m b o x→G):G:=by
 obtain ⟨b,o,h1,h2,h3⟩:=h.el hi k0
 exact K b o l[i] (List.getElem?_eq_getElem hi) h1 ⟨h.1 _,h3⟩
theorem Own.rds {m:Mem} {t:TypeId} {v:Value} {l:List α} (k0:0 < k) (hk:∀ x,(enc x).length=k) (h:Own m t k v l.length (l.flatMap enc)):RdS k enc m v l:=by
 refine ⟨hk,?_⟩
 rcases h.2 with ⟨rfl,h0⟩ | ⟨b,cap,tail,rfl,hb,hl⟩
 ·have:l=[]:=List.eq_nil_of_length_eq_zero h0
  subst this
  exact ⟨none,0,rfl,by simp,.inl rfl⟩
 ·refine ⟨some ⟨b,0,none⟩,cap,rfl,?_,.inr ⟨b,0,rfl,fun i x hx=>?_⟩⟩
  ·rw [List.length_append,jI hk] at hl
   exact Nat.le_of_mul_le_mul_right (by omega:l.length*k≤cap*k) (by omega)
  ·have:=(List.getElem?_eq_some_iff.1 hx).1
   rw [hb,JI]
   simp only [Nat.zero_add,List.getElem?_toArray]
   rw [List.getElem?_append_left this];exact hx
end
end Go.Fw
namespace Go.Fw
open Go
structure As where
 fp:List Nat
 wp:List Nat
 sub:∀ b∈wp,b∈fp
 p:Mem→Prop
 st:∀ {m m':Mem},p m→(∀ b∈fp,m' b=m b)→p m'
 th:∀ {m:Mem},p m→∀ b∈fp,m b≠none
def qv (b:Nat) (o:Obj):As where
 fp:=[b]
 wp:=[b]
 sub _ h:=h
 p m:=m b=some o
 st h e:=by rw [e _ (by simp)];exact h
 th h b' hb:=by simp at hb;subst hb;rw [h];exact Option.some_ne_none _
@[simp] theorem cellA_fp (b:Nat) (o:Obj):(qv b o).fp=[b]:=rfl
@[simp] theorem cellA_wp (b:Nat) (o:Obj):(qv b o).wp=[b]:=rfl
abbrev qvg:As where
 fp:=[]
 wp:=[]
 sub _ h:=h
 p _:=True
 st _ _:=trivial
 th _ b hb:=by cases hb
def ZM (A B:As):Prop:=(∀ b∈A.wp,b∉B.fp)∧∀ b∈B.wp,b∉A.fp
theorem ZM.symm {A B:As} (h:ZM A B):ZM B A:=⟨h.2,h.1⟩
abbrev vH (A B:As):As where
 fp:=A.fp++B.fp
 wp:=A.wp++B.wp
 sub b h:=(List.mem_append.1 h).elim (fun h=>List.mem_append_left _ (A.sub b h)) (fun h=>List.mem_append_right _ (B.sub b h))
 p m:=A.p m∧B.p m∧ZM A B
 st h e:=⟨A.st h.1 fun b hb=>e b (List.mem_append_left _ hb),B.st h.2.1 fun b hb=>e b (List.mem_append_right _ hb),h.2.2⟩
 th h b hb:=(List.mem_append.1 hb).elim (A.th h.1 b) (B.th h.2.1 b)
theorem As.fr {A:As} {m m':Mem} {T:List Nat} (h:A.p m) (f:Fr m m' T) (hT:∀ b∈A.fp,b∉T):A.p m':=A.st h fun b hb=>f b (A.th h b hb) (hT b hb)
theorem As.fr0 {A:As} {m m':Mem} (h:A.p m) (f:Fr m m' []):A.p m':=A.fr h f fun _ _=>by simp
abbrev Hps (m:Mem):List As→Prop
 | []=>True
 | A::r=>A.p m∧Hps m r
theorem Hps.mem {m:Mem}:∀ {L:List As},Hps m L→∀ A∈L,A.p m
 | A::r,h,B,hB=>by
  rcases List.mem_cons.1 hB with rfl | hB
  ·exact h.1
  ·exact Hps.mem h.2 B hB
theorem Hps.of {m:Mem}:∀ {L:List As},(∀ A∈L,A.p m)→Hps m L
 | [],_=>trivial
 | A::r,h=>⟨h A (List.mem_cons_self ..),Hps.of fun B hB=>h B (List.mem_cons_of_mem _ hB)⟩
structure Hq (m0 m:Mem) (S:List Nat) (L:List As):Prop where
 hs:Hps m L
 fr:Fr m0 m S
 dj:L.Pairwise ZM
 nw:∀ A∈L,∀ b∈A.wp,m0 b=none∨b∈S
section
variable {P:Program} {m0 m M:Mem} {S:List Nat} {L:List As} {A A' B:As}
theorem Hq.refl (m:Mem) (S:List Nat):Hq m m S []:=⟨trivial,Fr.refl _ _,.nil,by simp⟩
theorem Hq.one (h:A.p m):Hq m m A.wp [A]:=⟨⟨h,trivial⟩,Fr.refl _ _,by simp,fun B hB b hb=>by simp at hB;subst hB;exact .inr hb⟩
theorem Hq.two (h:A.p m) (h':B.p m) (hd:ZM A B):Hq m m (A.wp++B.wp) [A,B] :=
 ⟨⟨h,h',trivial⟩,Fr.refl _ _,by simpa using hd,fun C hC b hb=>by
  simp at hC
  rcases hC with rfl | rfl
  ·exact .inr (List.mem_append_left _ hb)
  ·exact .inr (List.mem_append_right _ hb)⟩
theorem Hq.qQY (H:Hq m0 m S L) {b:Nat} (hb:m b=none):m0 b=none∨b∈S:=by
 by_cases hS:b∈S
 ·exact .inr hS
 ·cases h0:m0 b with
  | none=>exact .inl rfl
  | some o=>rw [H.fr.get h0 hS] at hb;cases hb
theorem Hq.new1 (H:Hq m0 m S L) {b:Nat} (hb:m b=none):∀ A∈L,b∉A.fp:=fun A hA h=>A.th (H.hs.mem A hA) b h hb
theorem Hq.Rq (H:Hq m0 m S L) (f:Fr m M []):Hq m0 M S L:=⟨Hps.of fun A hA=>A.fr0 (H.hs.mem A hA) f,H.fr.KA f,H.dj,H.nw⟩
theorem Hq.add (H:Hq m0 m S L) (hp:A.p M) (f:Fr m M []) (hn:∀ b∈A.fp,m b=none):Hq m0 M S (A::L) :=
 ⟨⟨hp,(H.Rq f).hs⟩,H.fr.KA f,List.pairwise_cons.2 ⟨fun B hB=>⟨fun b hb=>H.new1 (hn b (A.sub b hb)) B hB,fun b hb ha=>H.new1 (hn b ha) B hB (B.sub b hb)⟩,H.dj⟩,fun C hC=>by
  rcases List.mem_cons.1 hC with rfl | hC
  ·exact fun b hb=>H.qQY (hn b (C.sub b hb))
  ·exact H.nw C hC⟩
theorem Hq.perm (H:Hq m0 m S L) {L':List As} (h:L'.Perm L):Hq m0 m S L' :=
 ⟨Hps.of fun A hA=>H.hs.mem A (h.mem_iff.1 hA),H.fr,(h.pairwise_iff fun h=>ZM.symm h).2 H.dj,fun A hA=>H.nw A (h.mem_iff.1 hA)⟩
theorem Hq.tail (H:Hq m0 m S (A::L)):Hq m0 m S L:=⟨H.hs.2,H.fr,(List.pairwise_cons.1 H.dj).2,fun B hB=>H.nw B (List.mem_cons_of_mem _ hB)⟩
theorem Hq.TP (H:Hq m0 m S (A::L)) (hp:A'.p M) (f:Fr m M A.wp) (hn:∀ b∈A'.fp,b∈A.fp∨m b=none) (hw:∀ b∈A'.wp,b∈A.wp∨m b=none):Hq m0 M S (A'::L):=by
 obtain ⟨hA,hL⟩:=List.pairwise_cons.1 H.dj
 refine ⟨⟨hp,Hps.of fun B hB=>B.fr (H.tail.hs.mem B hB) f fun b hb ha=>(hA B hB).1 b ha hb⟩,H.fr.trans f fun x hx h0=>(H.nw A (List.mem_cons_self ..) x hx).resolve_left h0,?_,?_⟩
 ·refine List.pairwise_cons.2 ⟨fun B hB=>⟨fun b hb hbB=>?_,fun b hb hbA=>?_⟩,hL⟩
  ·rcases hw b hb with h | h
   ·exact (hA B hB).1 b h hbB
   ·exact B.th (H.tail.hs.mem B hB) b hbB h
  ·rcases hn b hbA with h | h
   ·exact (hA B hB).2 b hb h
   ·exact B.th (H.tail.hs.mem B hB) b (B.sub b hb) h
 ·intro C hC b hb
  rcases List.mem_cons.1 hC with rfl | hC
  ·rcases hw b hb with h | h
   ·exact H.nw A (List.mem_cons_self ..) b h
   ·exact H.qQY h
  ·exact H.nw C (List.mem_cons_of_mem _ hC) b hb
theorem qzk {α:Type}:∀ {l:List α} {i:Nat} {a:α},l[i]?=some a→(a::l.eraseIdx i).Perm l
 | x::r,0,a,h=>by simp at h;subst h;exact List.Perm.refl _
 | x::r,i+1,a,h=>(List.Perm.swap x a _).trans ((qzk (by simpa using h)).cons x)
theorem set_perm {α:Type}:∀ {l:List α} {i:Nat} (a:α),i < l.length→(a::l.eraseIdx i).Perm (l.set i a)
 | x::r,0,a,h=>List.Perm.refl _
 | x::r,i+1,a,h=>(List.Perm.swap x a _).trans ((set_perm a (by simpa using h)).cons x)
theorem Hq.up (H:Hq m0 m S L) (i:Nat) (hi:L[i]?=some A):Hq m0 m S (A::L.eraseIdx i):=H.perm (qzk hi)
theorem Hq.rep (H:Hq m0 m S L) (i:Nat) (hi:L[i]?=some A) (hp:A'.p M) (f:Fr m M A.wp) (hn:∀ b∈A'.fp,b∈A.fp∨m b=none) (hw:∀ b∈A'.wp,b∈A.wp∨m b=none):Hq m0 M S (L.set i A'):=by
 exact ((H.up i hi).TP hp f hn hw).perm (set_perm A' (List.getElem?_eq_some_iff.1 hi).1).symm
theorem Hq.drop (H:Hq m0 m S L) (i:Nat):Hq m0 m S (L.eraseIdx i) :=
 ⟨Hps.of fun A hA=>H.hs.mem A ((List.eraseIdx_sublist ..).subset hA),H.fr,H.dj.sublist (List.eraseIdx_sublist ..),fun A hA=>H.nw A ((List.eraseIdx_sublist ..).subset hA)⟩
theorem Hq.at (H:Hq m0 m S L) (i:Nat) (hi:L[i]?=some A):A.p m:=H.hs.mem A (List.mem_of_getElem? hi)
theorem Hq.split (H:Hq m0 m S (vH A B::L)):Hq m0 m S (A::B::L):=by
 obtain ⟨hA,hL⟩:=List.pairwise_cons.1 H.dj
 refine ⟨⟨H.hs.1.1,H.hs.1.2.1,H.hs.2⟩,H.fr,?_,?_⟩
 ·refine List.pairwise_cons.2 ⟨fun C hC=>?_,List.pairwise_cons.2 ⟨fun C hC=>⟨fun b hb=>(hA C hC).1 b (List.mem_append_right _ hb),fun b hb h=>(hA C hC).2 b hb (List.mem_append_right _ h)⟩,hL⟩⟩
  rcases List.mem_cons.1 hC with rfl | hC
  ·exact H.hs.1.2.2
  ·exact ⟨fun b hb=>(hA C hC).1 b (List.mem_append_left _ hb),fun b hb h=>(hA C hC).2 b hb (List.mem_append_left _ h)⟩
 ·intro C hC b hb
  rcases List.mem_cons.1 hC with rfl | hC
  ·exact H.nw _ (List.mem_cons_self ..) b (List.mem_append_left _ hb)
  ·rcases List.mem_cons.1 hC with rfl | hC
   ·exact H.nw _ (List.mem_cons_self ..) b (List.mem_append_right _ hb)
   ·exact H.nw C (List.mem_cons_of_mem _ hC) b hb
theorem Hq.join (H:Hq m0 m S (A::B::L)):Hq m0 m S (vH A B::L):=by
 obtain ⟨hA,hL⟩:=List.pairwise_cons.1 H.dj
 obtain ⟨hB,hL⟩:=List.pairwise_cons.1 hL
 refine ⟨⟨⟨H.hs.1,H.hs.2.1,hA B (List.mem_cons_self ..)⟩,H.hs.2.2⟩,H.fr,List.pairwise_cons.2 ⟨fun C hC=>⟨fun b hb=>?_,fun b hb h=>?_⟩,hL⟩,?_⟩
 ·rcases List.mem_append.1 hb with hb | hb
  ·exact (hA C (List.mem_cons_of_mem _ hC)).1 b hb
  ·exact (hB C hC).1 b hb
 ·rcases List.mem_append.1 h with h | h
  ·exact (hA C (List.mem_cons_of_mem _ hC)).2 b hb h
  ·exact (hB C hC).2 b hb h
 ·intro C hC b hb
  rcases List.mem_cons.1 hC with rfl | hC
  ·rcases List.mem_append.1 hb with hb | hb
   ·exact H.nw _ (List.mem_cons_self ..) b hb
   ·exact H.nw _ (List.mem_cons_of_mem _ (List.mem_cons_self ..)) b hb
  ·exact H.nw C (List.mem_cons_of_mem _ (List.mem_cons_of_mem _ hC)) b hb
theorem Hq.done (H:Hq m0 m S (A::L)):A.p m∧Fr m0 m S∧∀ b∈A.wp,b∈S∨m0 b=none:=⟨H.hs.1,H.fr,fun b hb=>(H.nw A (List.mem_cons_self ..) b hb).symm⟩
class LC (A' A:As):Prop where
 fp:A'.fp=A.fp
 wp:A'.wp=A.wp
class bG (L:List As) (G:outParam (List (Nat×Obj))):Prop where
 h:∀ m,Hps m L→Hs m G
instance:bG [] []:=⟨fun _ _=>trivial⟩
instance (priority:=low) {A:As} {L:List As} {G:List (Nat×Obj)} [I:bG L G]:bG (A::L) G:=⟨fun m h=>I.h m h.2⟩
instance {b:Nat} {o:Obj} {L:List As} {G:List (Nat×Obj)} [I:bG L G]:bG (qv b o::L) ((b,o)::G):=⟨fun m h=>⟨h.1,I.h m h.2⟩⟩
theorem Hq.cs {G:List (Nat×Obj)} [I:bG L G] (H:Hq m0 m S L):Hs m G:=I.h m H.hs
abbrev CM (P:Program) (f:Nat) (args:List Value) (m:Mem) (A:As) (R:Value→As→Prop):Prop :=
 MC P f args m fun v M=>∃ A',R v A'∧A'.p M∧Fr m M A.wp∧(∀ b∈A'.fp,b∈A.fp∨m b=none)∧∀ b∈A'.wp,b∈A.wp∨m b=none
abbrev CN (P:Program) (f:Nat) (args:List Value) (m:Mem) (R:Value→As→Prop):Prop :=
 MC P f args m fun v M=>∃ A',R v A'∧A'.p M∧Fr m M []∧∀ b∈A'.fp,m b=none
theorem qh {o:Obj} {J:Nat→Mem→Prop} {l:Lk J} {l':Lk m} (H:Hq m0 m S L) (k:∀ b M,Fr m M []→Hq m0 M S (qv b o::L)→J b M):PC m o J l l' :=
 fun b hb=>k b _ (Fr.new _ hb) (H.add (A:=qv b o) (Qd _ _) (Fr.new _ hb) (by simpa using hb))
theorem wrQ {b:Nat} {x o:Obj} {J:Mem→Prop} {l:Lk J} {l':Lk m} (i:Nat) (H:Hq m0 m S L) (hi:L[i]?=some (qv b o)) (k:∀ M,Fr m M [b]→Hq m0 M S (L.set i (qv b x))→J M):wrO m b x J l l' :=
 k _ (Fr.set (by simp)) (H.rep (A:=qv b o) (A':=qv b x) i hi (Qd _ _) (Fr.set (by simp)) (fun b hb=>.inl hb) (fun b hb=>.inl hb))
theorem qjr {b off:Nat} {c vs:List Value} {T:TypeId} {J:Mem→Prop} {l:Lk J} {l':Lk m} (i:Nat) (H:Hq m0 m S L) (hi:L[i]?=some (qv b (.cells c.toArray T (0,0)))) (hl:off+vs.length≤c.length) (h1:vs.all Value.oneCell'=true)
  (k:∀ M,Fr m M [b]→Hq m0 M S (L.set i (qv b (.cells (c.take off++vs++c.drop (off+vs.length)).toArray T (0,0))))→J M):stQ m ⟨b,off,none⟩ 0 vs J l l':=by
 have h:=XG (t:=T) (b:=b) (o:=off) vs 0 m c (H.at i hi) (by simpa using hl) (fun v hv=>List.all_eq_true.1 h1 v hv)
 simp only [Nat.add_zero] at h
 exact ⟨_,h,k _ (Fr.set (by simp)) (H.rep (A:=qv b (.cells c.toArray T (0,0))) (A':=qv b (.cells (c.take off++vs++c.drop (off+vs.length)).toArray T (0,0))) i hi (Qd _ _) (Fr.set (by simp)) (fun b hb=>.inl hb) (fun b hb=>.inl hb))⟩
theorem qjp {b:Nat} {c vs:List Value} {T:TypeId} {J:Mem→Prop} {l:Lk J} {l':Lk m} (i:Nat) (H:Hq m0 m S L) (hi:L[i]?=some (qv b (.cells c.toArray T (0,0)))) (hl:vs.length=c.length) (h1:vs.all Value.oneCell'=true)
  (k:∀ M,Fr m M [b]→Hq m0 M S (L.set i (qv b (.cells vs.toArray T (0,0))))→J M):stQ m ⟨b,0,none⟩ 0 vs J l l' :=
 qjr i H hi (by omega) h1 fun M f H'=>k M f (by
  have:List.drop (0+vs.length) c=[]:=List.drop_eq_nil_iff.2 (by omega)
  rw [this] at H';simpa using H')
theorem qY {f:Nat} {args:List Value} {V:Value} {K:Value→Mem→Prop} {l:Lk K} (H:Hq m0 m S L) (h:MC P f args m fun v M=>v=V∧Fr m M []) (k:∀ M,Fr m M []→Hq m0 M S L→K V M):xc P f args m K l :=
 xz h fun v M ⟨e,g⟩=>by subst e;exact k M g (H.Rq g)
theorem GV {f:Nat} {args:List Value} {R:Value→Mem→Prop} {K:Value→Mem→Prop} {l:Lk K} (H:Hq m0 m S L) (h:MC P f args m fun v M=>R v M∧Fr m M []) (k:∀ v M,R v M→Fr m M []→Hq m0 M S L→K v M):xc P f args m K l :=
 xz h fun v M ⟨e,g⟩=>k v M e g (H.Rq g)
theorem zq {f:Nat} {args:List Value} {R:Value→As→Prop} {K:Value→Mem→Prop} {l:Lk K} (i:Nat) (H:Hq m0 m S L) (h:CM P f args m A R) (hi:L[i]?=some A) (k:∀ v M A',R v A'→Fr m M A.wp→Hq m0 M S (L.set i A')→K v M):xc P f args m K l :=
 xz h fun v M ⟨A',hr,hp,g,hn,hw⟩=>k v M A' hr g (H.rep i hi hp g hn hw)
theorem bE {f:Nat} {args:List Value} {V:Value} {K:Value→Mem→Prop} {l:Lk K} (i:Nat) (A A':As) (H:Hq m0 m S L) (h:MC P f args m fun v M=>(v=V∧A'.p M)∧Fr m M A.wp) (hi:L[i]?=some A) (hf:A'.fp=A.fp) (hw:A'.wp=A.wp)
  (k:∀ M,Fr m M A.wp→Hq m0 M S (L.set i A')→K V M):xc P f args m K l :=
 xz h fun v M ⟨⟨e,hp⟩,g⟩=>by subst e;exact k M g (H.rep i hi hp g (fun b hb=>.inl (hf▸hb)) (fun b hb=>.inl (hw▸hb)))
theorem xd {f:Nat} {args:List Value} {R:Value→As→Prop} {K:Value→Mem→Prop} {l:Lk K} (H:Hq m0 m S L) (h:CN P f args m R) (k:∀ v M A',R v A'→Fr m M []→Hq m0 M S (A'::L)→K v M):xc P f args m K l :=
 xz h fun v M ⟨A',hr,hp,g,hn⟩=>k v M A' hr g (H.add hp g hn)
theorem Own.st {m m':Mem} {t:TypeId} {size n:Nat} {v:Value} {xs:List Value} (h:Own m t size v n xs) (e:∀ b∈qH v,m' b=m b):Own m' t size v n xs:=by
 refine ⟨h.1,?_⟩
 rcases h.2 with h | ⟨b,cap,tail,rfl,hb,hl⟩
 ·exact .inl h
 ·exact .inr ⟨b,cap,tail,rfl,by rw [e b (by simp [qH])];exact hb,hl⟩
abbrev qK (t:TypeId) (size:Nat) (v:Value) (n:Nat) (xs:List Value):As where
 fp:=qH v
 wp:=qH v
 sub _ h:=h
 p m:=Own m t size v n xs
 st h e:=Own.st h e
 th h:=h.there
theorem Yz {t:TypeId} {size bytes:Nat} {zero:List Value} {x y:Value} {K:Value→Mem→Prop} {l:Lk K} {l1:Lk x} {l2:Lk m} {n k c:Nat} {b:Option Addr} {xs news:List Value} (i:Nat)
  (H:Hq m0 m S L) (hi:L[i]?=some (qK t size x n xs)) (hy:y=.slice b k c) (hnews:ldS m b (k*size)=some news) (hk:news.length=k*size) (h1:∀ v∈news,v.oneCell'=true) (hz:zero.length=size)
  (hb:(n+k)*bytes≤140737488355328) (h62:n+k≤4611686018427387904)
  (hK:∀ v M,Fr m M (qH x)→Hq m0 M S (L.set i (qK t size v (n+k) (xs++news)))→K v M):qqO P t size bytes zero x y m K l l1 l2 :=
 CR (H.at i hi) hy hnews hk h1 hz hb h62 fun v M ho f hb=>hK v M f (H.rep (A':=qK t size v (n+k) (xs++news)) i hi ho f hb hb)
theorem apsQ' {t:TypeId} {x:Value} {K:Value→Mem→Prop} {l:Lk K} {l1:Lk x} {l2:Lk m} {n:Nat} {s:ByteArray} {xs:List Value} (i:Nat)
  (H:Hq m0 m S L) (hi:L[i]?=some (qK t 1 x n xs)) (hb:n+s.size≤140737488355328)
  (hK:∀ v M,Fr m M (qH x)→Hq m0 M S (L.set i (qK t 1 v (n+s.size) (xs++s.data.toList.map fun (c:UInt8)=>Value.int .u8 c.toNat)))→K v M):qZA P t x (.string s) m K l l1 l2 :=
 qZu (H.at i hi) hb fun v M ho f hb=>hK v M f (H.rep (A':=qK t 1 v (n+s.size) (xs++s.data.toList.map fun (c:UInt8)=>Value.int .u8 c.toNat)) i hi ho f hb hb)
theorem Own.zA {G:Prop} {t:TypeId} {size n:Nat} {v:Value} {xs:List Value} (h:Own m t size v n xs) (K:∀ a c,v=.slice a n c→G):G:=by
 obtain ⟨a,c,e⟩:=h.form
 exact K a c e
theorem Hq.OI {b:Nat} {l:List Value} {t:TypeId} (H:Hq m0 m S (qv b (.cells l.toArray t (0,0))::L)) (size n cap:Nat) (h1:l.length=cap*size) (h2:n≤cap):Hq m0 m S (qK t size (.slice (some ⟨b,0,none⟩) n cap) n (l.take (n*size))::L):=by
 have h3:n*size≤cap*size:=Nat.mul_le_mul_right _ h2
 have hb:m b=some (.cells l.toArray t (0,0)):=H.hs.1
 refine H.TP (M:=m) (A':=qK t size (.slice (some ⟨b,0,none⟩) n cap) n (l.take (n*size))) ⟨by rw [List.length_take];omega,.inr ⟨b,cap,l.drop (n*size),rfl,by rw [List.take_append_drop];exact hb,by rw [List.take_append_drop];exact h1⟩⟩ (Fr.refl _ _) ?_ ?_
 ·intro x hx;exact .inl hx
 ·intro x hx;exact .inl hx
theorem zY {b n:Nat} {l:List Value} {t:TypeId} {fr:Nat×Nat} (h:m b=some (.cells l.toArray t fr)) (hn:n≤l.length):ldS m (some ⟨b,0,none⟩) n=some (l.take n):=by
 simp only [ldS]
 rw [XO h n 0 0 (by omega)];simp
theorem Hq.yD (H:Hq m0 m S L) (t:TypeId) (size:Nat):Hq m0 m S (qK t size (.slice none 0 0) 0 []::L):=H.add (A:=qK t size (.slice none 0 0) 0 []) (Own.nil _ _ _) (Fr.refl _ _) (by simp [qH])
theorem zG {b:Nat} {x o:Obj} {J:Mem→Prop} {l:Lk J} {l':Lk m} (H:Hq m0 m S (qv b o::L)) (k:∀ M,Fr m M [b]→Hq m0 M S (qv b x::L)→J M):wrO m b x J l l':=wrQ 0 H rfl k
theorem qs {b:Nat} {c vs:List Value} {T:TypeId} {J:Mem→Prop} {l:Lk J} {l':Lk m} (H:Hq m0 m S (qv b (.cells c.toArray T (0,0))::L)) (hl:vs.length=c.length) (h1:vs.all Value.oneCell'=true)
  (k:∀ M,Fr m M [b]→Hq m0 M S (qv b (.cells vs.toArray T (0,0))::L)→J M):stQ m ⟨b,0,none⟩ 0 vs J l l':=qjp 0 H rfl hl h1 k
theorem JQ {b off:Nat} {c vs:List Value} {T:TypeId} {J:Mem→Prop} {l:Lk J} {l':Lk m} (H:Hq m0 m S (qv b (.cells c.toArray T (0,0))::L)) (hl:off+vs.length≤c.length) (h1:vs.all Value.oneCell'=true)
  (k:∀ M,Fr m M [b]→Hq m0 M S (qv b (.cells (c.take off++vs++c.drop (off+vs.length)).toArray T (0,0))::L)→J M):stQ m ⟨b,off,none⟩ 0 vs J l l':=qjr 0 H rfl hl h1 k
theorem jb {f:Nat} {args:List Value} {R:Value→As→Prop} {K:Value→Mem→Prop} {l:Lk K} (H:Hq m0 m S (A::L)) (h:CM P f args m A R) (k:∀ v M A',R v A'→Fr m M A.wp→Hq m0 M S (A'::L)→K v M):xc P f args m K l:=zq 0 H h rfl k
theorem fM {f:Nat} {args:List Value} {V:Value} {K:Value→Mem→Prop} {l:Lk K} (A':As) (H:Hq m0 m S (A::L)) (h:MC P f args m fun v M=>(v=V∧A'.p M)∧Fr m M A.wp) (hf:A'.fp=A.fp) (hw:A'.wp=A.wp)
  (k:∀ M,Fr m M A.wp→Hq m0 M S (A'::L)→K V M):xc P f args m K l:=bE 0 A A' H h rfl hf hw k
theorem tS0 {f:Nat} {args:List Value} {V:Value} {K:Value→Mem→Prop} {l:Lk K} {A':As} (H:Hq m0 m S (A::L)) (h:A.p m→MC P f args m fun v M=>(v=V∧A'.p M)∧Fr m M A.wp) [I:LC A' A]
  (k:∀ M,Fr m M A.wp→Hq m0 M S (A'::L)→K V M):xc P f args m K l:=bE 0 A A' H (h (H.at 0 rfl)) rfl I.fp I.wp k
theorem tQ0 {f:Nat} {args:List Value} {V:Value} {K:Value→Mem→Prop} {l:Lk K} (H:Hq m0 m S (A::L)) (h:A.p m→MC P f args m fun v M=>v=V∧Fr m M [])
  (k:∀ M,Fr m M []→Hq m0 M S (A::L)→K V M):xc P f args m K l:=qY H (h (H.at 0 rfl)) k
theorem tN0 {f:Nat} {args:List Value} {R:Value→As→Prop} {K:Value→Mem→Prop} {l:Lk K} (H:Hq m0 m S (A::L)) (h:A.p m→CN P f args m R)
  (k:∀ v M A',R v A'→Fr m M []→Hq m0 M S (A'::A::L)→K v M):xc P f args m K l:=xd H (h (H.at 0 rfl)) k
theorem repQ0 (H:Hq m0 m S (A::L)) (hp:A'.p M) (f:Fr m M A.wp) (hn:∀ b∈A'.fp,b∈A.fp∨m b=none) (hw:∀ b∈A'.wp,b∈A.wp∨m b=none):Hq m0 M S (A'::L):=H.rep 0 rfl hp f hn hw
theorem Lu {t:TypeId} {size bytes:Nat} {zero:List Value} {x y:Value} {K:Value→Mem→Prop} {l:Lk K} {l1:Lk x} {l2:Lk m} {n k c:Nat} {b:Option Addr} {xs news:List Value}
  (H:Hq m0 m S (qK t size x n xs::L)) (hy:y=.slice b k c) (hnews:ldS m b (k*size)=some news) (hk:news.length=k*size) (h1:∀ v∈news,v.oneCell'=true) (hz:zero.length=size)
  (hb:(n+k)*bytes≤140737488355328) (h62:n+k≤4611686018427387904)
  (hK:∀ v M,Fr m M (qH x)→Hq m0 M S (qK t size v (n+k) (xs++news)::L)→K v M):qqO P t size bytes zero x y m K l l1 l2:=Yz 0 H rfl hy hnews hk h1 hz hb h62 hK
theorem apsQ0 {t:TypeId} {x:Value} {K:Value→Mem→Prop} {l:Lk K} {l1:Lk x} {l2:Lk m} {n:Nat} {s:ByteArray} {xs:List Value}
  (H:Hq m0 m S (qK t 1 x n xs::L)) (hb:n+s.size≤140737488355328)
  (hK:∀ v M,Fr m M (qH x)→Hq m0 M S (qK t 1 v (n+s.size) (xs++s.data.toList.map fun (c:UInt8)=>Value.int .u8 c.toNat)::L)→K v M):qZA P t x (.string s) m K l l1 l2:=apsQ' 0 H rfl hb hK
theorem Jv {X0:As} {b:Nat} {x o:Obj} {J:Mem→Prop} {l:Lk J} {l':Lk m} (H:Hq m0 m S (X0::qv b o::L)) (k:∀ M,Fr m M [b]→Hq m0 M S (X0::qv b x::L)→J M):wrO m b x J l l':=wrQ 1 H rfl k
theorem zQ {X0:As} {b:Nat} {c vs:List Value} {T:TypeId} {J:Mem→Prop} {l:Lk J} {l':Lk m} (H:Hq m0 m S (X0::qv b (.cells c.toArray T (0,0))::L)) (hl:vs.length=c.length) (h1:vs.all Value.oneCell'=true)
  (k:∀ M,Fr m M [b]→Hq m0 M S (X0::qv b (.cells vs.toArray T (0,0))::L)→J M):stQ m ⟨b,0,none⟩ 0 vs J l l':=qjp 1 H rfl hl h1 k
theorem Jy {X0:As} {b off:Nat} {c vs:List Value} {T:TypeId} {J:Mem→Prop} {l:Lk J} {l':Lk m} (H:Hq m0 m S (X0::qv b (.cells c.toArray T (0,0))::L)) (hl:off+vs.length≤c.length) (h1:vs.all Value.oneCell'=true)
  (k:∀ M,Fr m M [b]→Hq m0 M S (X0::qv b (.cells (c.take off++vs++c.drop (off+vs.length)).toArray T (0,0))::L)→J M):stQ m ⟨b,off,none⟩ 0 vs J l l':=qjr 1 H rfl hl h1 k
theorem qKt {X0:As} {f:Nat} {args:List Value} {R:Value→As→Prop} {K:Value→Mem→Prop} {l:Lk K} (H:Hq m0 m S (X0::A::L)) (h:CM P f args m A R) (k:∀ v M A',R v A'→Fr m M A.wp→Hq m0 M S (X0::A'::L)→K v M):xc P f args m K l:=zq 1 H h rfl k
theorem tS1 {X0:As} {f:Nat} {args:List Value} {V:Value} {K:Value→Mem→Prop} {l:Lk K} {A':As} (H:Hq m0 m S (X0::A::L)) (h:A.p m→MC P f args m fun v M=>(v=V∧A'.p M)∧Fr m M A.wp) [I:LC A' A]
  (k:∀ M,Fr m M A.wp→Hq m0 M S (X0::A'::L)→K V M):xc P f args m K l:=bE 1 A A' H (h (H.at 1 rfl)) rfl I.fp I.wp k
theorem tQ1 {X0:As} {f:Nat} {args:List Value} {V:Value} {K:Value→Mem→Prop} {l:Lk K} (H:Hq m0 m S (X0::A::L)) (h:A.p m→MC P f args m fun v M=>v=V∧Fr m M [])
  (k:∀ M,Fr m M []→Hq m0 M S (X0::A::L)→K V M):xc P f args m K l:=qY H (h (H.at 1 rfl)) k
theorem tN1 {X0:As} {f:Nat} {args:List Value} {R:Value→As→Prop} {K:Value→Mem→Prop} {l:Lk K} (H:Hq m0 m S (X0::A::L)) (h:A.p m→CN P f args m R)
  (k:∀ v M A',R v A'→Fr m M []→Hq m0 M S (A'::X0::A::L)→K v M):xc P f args m K l:=xd H (h (H.at 1 rfl)) k
theorem qwX {X0:As} (H:Hq m0 m S (X0::A::L)):Hq m0 m S (X0::L):=H.drop 1
theorem qjZ {X0:As} {t:TypeId} {size bytes:Nat} {zero:List Value} {x y:Value} {K:Value→Mem→Prop} {l:Lk K} {l1:Lk x} {l2:Lk m} {n k c:Nat} {b:Option Addr} {xs news:List Value}
  (H:Hq m0 m S (X0::qK t size x n xs::L)) (hy:y=.slice b k c) (hnews:ldS m b (k*size)=some news) (hk:news.length=k*size) (h1:∀ v∈news,v.oneCell'=true) (hz:zero.length=size)
  (hb:(n+k)*bytes≤140737488355328) (h62:n+k≤4611686018427387904)
  (hK:∀ v M,Fr m M (qH x)→Hq m0 M S (X0::qK t size v (n+k) (xs++news)::L)→K v M):qqO P t size bytes zero x y m K l l1 l2:=Yz 1 H rfl hy hnews hk h1 hz hb h62 hK
theorem yZ {X0 X1:As} {b:Nat} {x o:Obj} {J:Mem→Prop} {l:Lk J} {l':Lk m} (H:Hq m0 m S (X0::X1::qv b o::L)) (k:∀ M,Fr m M [b]→Hq m0 M S (X0::X1::qv b x::L)→J M):wrO m b x J l l':=wrQ 2 H rfl k
theorem jU {X0 X1:As} {b:Nat} {c vs:List Value} {T:TypeId} {J:Mem→Prop} {l:Lk J} {l':Lk m} (H:Hq m0 m S (X0::X1::qv b (.cells c.toArray T (0,0))::L)) (hl:vs.length=c.length) (h1:vs.all Value.oneCell'=true)
  (k:∀ M,Fr m M [b]→Hq m0 M S (X0::X1::qv b (.cells vs.toArray T (0,0))::L)→J M):stQ m ⟨b,0,none⟩ 0 vs J l l':=qjp 2 H rfl hl h1 k
theorem Xd {X0 X1:As} {b off:Nat} {c vs:List Value} {T:TypeId} {J:Mem→Prop} {l:Lk J} {l':Lk m} (H:Hq m0 m S (X0::X1::qv b (.cells c.toArray T (0,0))::L)) (hl:off+vs.length≤c.length) (h1:vs.all Value.oneCell'=true)
  (k:∀ M,Fr m M [b]→Hq m0 M S (X0::X1::qv b (.cells (c.take off++vs++c.drop (off+vs.length)).toArray T (0,0))::L)→J M):stQ m ⟨b,off,none⟩ 0 vs J l l':=qjr 2 H rfl hl h1 k
theorem qwr {X0 X1:As} {f:Nat} {args:List Value} {R:Value→As→Prop} {K:Value→Mem→Prop} {l:Lk K} (H:Hq m0 m S (X0::X1::A::L)) (h:CM P f args m A R) (k:∀ v M A',R v A'→Fr m M A.wp→Hq m0 M S (X0::X1::A'::L)→K v M):xc P f args m K l:=zq 2 H h rfl k
theorem tS2 {X0 X1:As} {f:Nat} {args:List Value} {V:Value} {K:Value→Mem→Prop} {l:Lk K} {A':As} (H:Hq m0 m S (X0::X1::A::L)) (h:A.p m→MC P f args m fun v M=>(v=V∧A'.p M)∧Fr m M A.wp) [I:LC A' A]
  (k:∀ M,Fr m M A.wp→Hq m0 M S (X0::X1::A'::L)→K V M):xc P f args m K l:=bE 2 A A' H (h (H.at 2 rfl)) rfl I.fp I.wp k
theorem tQ2 {X0 X1:As} {f:Nat} {args:List Value} {V:Value} {K:Value→Mem→Prop} {l:Lk K} (H:Hq m0 m S (X0::X1::A::L)) (h:A.p m→MC P f args m fun v M=>v=V∧Fr m M [])
  (k:∀ M,Fr m M []→Hq m0 M S (X0::X1::A::L)→K V M):xc P f args m K l:=qY H (h (H.at 2 rfl)) k
theorem tN2 {X0 X1:As} {f:Nat} {args:List Value} {R:Value→As→Prop} {K:Value→Mem→Prop} {l:Lk K} (H:Hq m0 m S (X0::X1::A::L)) (h:A.p m→CN P f args m R)
  (k:∀ v M A',R v A'→Fr m M []→Hq m0 M S (A'::X0::X1::A::L)→K v M):xc P f args m K l:=xd H (h (H.at 2 rfl)) k
theorem Xb {X0 X1 X2:As} {b:Nat} {x o:Obj} {J:Mem→Prop} {l:Lk J} {l':Lk m} (H:Hq m0 m S (X0::X1::X2::qv b o::L)) (k:∀ M,Fr m M [b]→Hq m0 M S (X0::X1::X2::qv b x::L)→J M):wrO m b x J l l':=wrQ 3 H rfl k
theorem xm {X0 X1 X2:As} {b:Nat} {c vs:List Value} {T:TypeId} {J:Mem→Prop} {l:Lk J} {l':Lk m} (H:Hq m0 m S (X0::X1::X2::qv b (.cells c.toArray T (0,0))::L)) (hl:vs.length=c.length) (h1:vs.all Value.oneCell'=true)
  (k:∀ M,Fr m M [b]→Hq m0 M S (X0::X1::X2::qv b (.cells vs.toArray T (0,0))::L)→J M):stQ m ⟨b,0,none⟩ 0 vs J l l':=qjp 3 H rfl hl h1 k
theorem Xc {X0 X1 X2:As} {b off:Nat} {c vs:List Value} {T:TypeId} {J:Mem→Prop} {l:Lk J} {l':Lk m} (H:Hq m0 m S (X0::X1::X2::qv b (.cells c.toArray T (0,0))::L)) (hl:off+vs.length≤c.length) (h1:vs.all Value.oneCell'=true)
  (k:∀ M,Fr m M [b]→Hq m0 M S (X0::X1::X2::qv b (.cells (c.take off++vs++c.drop (off+vs.length)).toArray T (0,0))::L)→J M):stQ m ⟨b,off,none⟩ 0 vs J l l':=qjr 3 H rfl hl h1 k
theorem tS3 {X0 X1 X2:As} {f:Nat} {args:List Value} {V:Value} {K:Value→Mem→Prop} {l:Lk K} {A':As} (H:Hq m0 m S (X0::X1::X2::A::L)) (h:A.p m→MC P f args m fun v M=>(v=V∧A'.p M)∧Fr m M A.wp) [I:LC A' A]
  (k:∀ M,Fr m M A.wp→Hq m0 M S (X0::X1::X2::A'::L)→K V M):xc P f args m K l:=bE 3 A A' H (h (H.at 3 rfl)) rfl I.fp I.wp k
theorem tQ3 {X0 X1 X2:As} {f:Nat} {args:List Value} {V:Value} {K:Value→Mem→Prop} {l:Lk K} (H:Hq m0 m S (X0::X1::X2::A::L)) (h:A.p m→MC P f args m fun v M=>v=V∧Fr m M [])
  (k:∀ M,Fr m M []→Hq m0 M S (X0::X1::X2::A::L)→K V M):xc P f args m K l:=qY H (h (H.at 3 rfl)) k
theorem Xa {X0 X1 X2 X3:As} {b:Nat} {x o:Obj} {J:Mem→Prop} {l:Lk J} {l':Lk m} (H:Hq m0 m S (X0::X1::X2::X3::qv b o::L)) (k:∀ M,Fr m M [b]→Hq m0 M S (X0::X1::X2::X3::qv b x::L)→J M):wrO m b x J l l':=wrQ 4 H rfl k
theorem xi {X0 X1 X2 X3:As} {b:Nat} {c vs:List Value} {T:TypeId} {J:Mem→Prop} {l:Lk J} {l':Lk m} (H:Hq m0 m S (X0::X1::X2::X3::qv b (.cells c.toArray T (0,0))::L)) (hl:vs.length=c.length) (h1:vs.all Value.oneCell'=true)
  (k:∀ M,Fr m M [b]→Hq m0 M S (X0::X1::X2::X3::qv b (.cells vs.toArray T (0,0))::L)→J M):stQ m ⟨b,0,none⟩ 0 vs J l l':=qjp 4 H rfl hl h1 k
theorem tS4 {X0 X1 X2 X3:As} {f:Nat} {args:List Value} {V:Value} {K:Value→Mem→Prop} {l:Lk K} {A':As} (H:Hq m0 m S (X0::X1::X2::X3::A::L)) (h:A.p m→MC P f args m fun v M=>(v=V∧A'.p M)∧Fr m M A.wp) [I:LC A' A]
  (k:∀ M,Fr m M A.wp→Hq m0 M S (X0::X1::X2::X3::A'::L)→K V M):xc P f args m K l:=bE 4 A A' H (h (H.at 4 rfl)) rfl I.fp I.wp k
theorem tQ4 {X0 X1 X2 X3:As} {f:Nat} {args:List Value} {V:Value} {K:Value→Mem→Prop} {l:Lk K} (H:Hq m0 m S (X0::X1::X2::X3::A::L)) (h:A.p m→MC P f args m fun v M=>v=V∧Fr m M [])
  (k:∀ M,Fr m M []→Hq m0 M S (X0::X1::X2::X3::A::L)→K V M):xc P f args m K l:=qY H (h (H.at 4 rfl)) k
theorem XY {X0 X1 X2 X3 X4:As} {b:Nat} {x o:Obj} {J:Mem→Prop} {l:Lk J} {l':Lk m} (H:Hq m0 m S (X0::X1::X2::X3::X4::qv b o::L)) (k:∀ M,Fr m M [b]→Hq m0 M S (X0::X1::X2::X3::X4::qv b x::L)→J M):wrO m b x J l l':=wrQ 5 H rfl k
theorem xh {X0 X1 X2 X3 X4:As} {b:Nat} {c vs:List Value} {T:TypeId} {J:Mem→Prop} {l:Lk J} {l':Lk m} (H:Hq m0 m S (X0::X1::X2::X3::X4::qv b (.cells c.toArray T (0,0))::L)) (hl:vs.length=c.length) (h1:vs.all Value.oneCell'=true)
  (k:∀ M,Fr m M [b]→Hq m0 M S (X0::X1::X2::X3::X4::qv b (.cells vs.toArray T (0,0))::L)→J M):stQ m ⟨b,0,none⟩ 0 vs J l l':=qjp 5 H rfl hl h1 k
end
attribute [irreducible] qv
end Go.Fw
namespace Go.Fw
open Go
abbrev bv (x:UInt8):Value:=.int .u8 (x.toNat:Int)
def bc (x:UInt8):List Value:=[bv x]
abbrev bys (l:List UInt8):List Value:=l.flatMap bc
theorem qqM (x:UInt8):(bc x).length=1:=rfl
theorem CP (l:List UInt8):bys l=l.map bv:=by
 induction l with
 | nil=>rfl
 | cons x r ih=>simp only [bys,List.flatMap_cons,List.map_cons] at *;rw [ih];rfl
theorem qjv (l:List UInt8):(bys l).length=l.length:=by rw [CP,List.length_map]
theorem qZm (l:List UInt8):∀ v∈bys l,v.oneCell'=true:=by
 intro v hv
 rw [CP] at hv
 obtain ⟨x,_,rfl⟩:=List.mem_map.1 hv
 rfl
theorem qZn (l r:List UInt8):bys (l++r)=bys l++bys r:=by simp [bys]
theorem Tv (l:List UInt8):Vf (bys l)=some l:=by
 rw [CP]
 induction l with
 | nil=>rfl
 | cons x r ih=>simp only [List.map_cons,Vf,ih,Option.map_some,Int.toNat_natCast,UInt8.ofNat_toNat]
theorem II {m:Mem} (x:Nat) (h:x < 256):rd (.ibt .and) [.int .u8 (x:Int),.int .u8 127] m=some (.int .u8 ((x % 128:Nat):Int)):=by
 show some (Value.int .u8 (IntKind.u8.wrap _))=_
 congr 2
 have:(BitVec.ofInt IntKind.u8.bits (x:Int) &&& BitVec.ofInt IntKind.u8.bits 127).toNat=x % 128:=by
  show (BitVec.ofInt 8 (x:Int) &&& BitVec.ofInt 8 127).toNat=_
  rw [BitVec.toNat_and,BitVec.toNat_ofInt,BitVec.toNat_ofInt]
  have h1:((x:Int) % ((2 ^ 8:Nat):Int)).toNat=x:=by omega
  have h2:((127:Int) % ((2 ^ 8:Nat):Int)).toNat=2 ^ 7 - 1:=by decide
  rw [h1,h2,Nat.and_two_pow_sub_one_eq_mod]
 rw [this,IntWalk.u8_in];omega
theorem u64_in (n:Int) (h:0≤n∧n≤18446744073709551615):IntKind.u64.wrap n=n:=by
 simp [IntKind.wrap,IntKind.bits,IntKind.signed];omega
theorem IL {m:Mem} (k u w:Nat) (hu:u < 2 ^ k) (hw:w % 2 ^ k=0) (h:u+w < 2 ^ 64):rd (.ibt .or) [.int .u64 (u:Int),.int .u64 (w:Int)] m=some (.int .u64 ((u+w:Nat):Int)):=by
 show some (Value.int .u64 (IntKind.u64.wrap _))=_
 congr 2
 have:(BitVec.ofInt IntKind.u64.bits (u:Int) ||| BitVec.ofInt IntKind.u64.bits (w:Int)).toNat=u+w:=by
  show (BitVec.ofInt 64 (u:Int) ||| BitVec.ofInt 64 (w:Int)).toNat=_
  rw [BitVec.toNat_or,BitVec.toNat_ofInt,BitVec.toNat_ofInt]
  have h1:((u:Int) % ((2 ^ 64:Nat):Int)).toNat=u:=by omega
  have h2:((w:Int) % ((2 ^ 64:Nat):Int)).toNat=w:=by omega
  rw [h1,h2]
  obtain ⟨q,rfl⟩:=Nat.dvd_of_mod_eq_zero hw
  rw [Nat.add_comm,Nat.two_pow_add_eq_or_of_lt hu,Nat.or_comm]
 rw [this,u64_in];omega
theorem TU {m:Mem} (a b:Nat) (hb:b≤64) (h:a*2 ^ b < 2 ^ 64):rd (.ish .shl) [.int .u64 (a:Int),.int .u64 (b:Int)] m=some (.int .u64 ((a*2 ^ b:Nat):Int)):=by
 show (if (b:Int) < 0 then none else some (Value.int .u64 (IntKind.u64.wrap _)))=_
 rw [if_neg (by omega)]
 congr 2
 have:min (b:Int).toNat IntKind.u64.bits=b:=by show min _ 64=_;omega
 rw [this]
 have h1:((a*2 ^ b:Nat):Int)=(a:Int)*2 ^ b:=by push_cast;rfl
 rw [← h1,u64_in];omega
theorem AW {m:Mem} (a:Nat) (kd:IntKind) (k:Int) (b:Nat) (hk:k=b) (hb:b≤64) (h:a*2 ^ b < 2 ^ 64):rd (.ish .shl) [.int .u64 (a:Int),.int kd k] m=some (.int .u64 ((a*2 ^ b:Nat):Int)):=by
 subst hk;exact TU (m:=m) a b hb h
theorem mf {m:Mem} (a:Nat) (k:Int) (b:Nat) (hk:k=b) (hb:b≤64):rd (.ish .shr) [.int .u64 (a:Int),.int .u64 k] m=some (.int .u64 ((a / 2 ^ b:Nat):Int)):=by
 subst hk
 show (if (b:Int) < 0 then none else some (Value.int .u64 _))=_
 rw [if_neg (by omega)]
 congr 2
 have:min (b:Int).toNat IntKind.u64.bits=b:=by show min _ 64=_;omega
 rw [this,Int.fdiv_eq_ediv_of_nonneg _ (Int.pow_nonneg (by omega))]
 push_cast;rfl
theorem qkU {m:Mem} (x:Nat) (h:x < 256):rd (.ibt .or) [.int .u8 (x:Int),.int .u8 128] m=some (.int .u8 ((x % 128+128:Nat):Int)):=by
 show some (Value.int .u8 (IntKind.u8.wrap _))=_
 congr 2
 have:(BitVec.ofInt IntKind.u8.bits (x:Int) ||| BitVec.ofInt IntKind.u8.bits 128).toNat=x % 128+128:=by
  have key:∀ y:Fin 256,(BitVec.ofNat 8 y.val ||| BitVec.ofInt 8 128).toNat=y.val % 128+128:=by decide +kernel
  have h1:BitVec.ofInt IntKind.u8.bits (x:Int)=BitVec.ofNat 8 x:=by
   show BitVec.ofInt 8 _=_
   apply BitVec.eq_of_toNat_eq
   rw [BitVec.toNat_ofInt,BitVec.toNat_ofNat];omega
  rw [h1]
  exact key ⟨x,h⟩
 rw [this,IntWalk.u8_in];omega
theorem qzw (n:Nat):IntKind.u8.wrap (n:Int)=((n % 256:Nat):Int):=by rw [IntKind.wrap_u8];omega
section
variable {m m':Mem}
abbrev RdB (m:Mem) (v:Value) (l:List UInt8):Prop:=RdS 1 bc m v l
theorem al {α:Type} {k:Nat} {enc:α→List Value} {a:Option Addr} {c:Nat} {l:List α} (h:RdS k enc m (.slice a l.length c) l):ldS m a (l.length*k)=some (l.flatMap enc):=by
 obtain ⟨hk,a',c',e,_,hr⟩:=h
 cases e
 have hl:=jI hk l
 rcases hr with h0 | ⟨b,o,rfl,hc⟩
 ·rw [h0] at hl ⊢
  have:l.length*k=0:=by simpa using hl.symm
  rw [this]
  cases a with
  | none=>rfl
  | some a=>rfl
 ·rw [← hl]
  exact Nz _ o 0 (fun j hj=>by rw [Nat.add_zero];exact hc j _ (List.getElem?_eq_getElem hj))
theorem qXb {a:Option Addr} {c:Nat} {l:List UInt8} (h:RdB m (.slice a l.length c) l):rd .b2s [.slice a l.length c] m=some (.string ⟨l.toArray⟩):=by
 have:=al h
 rw [Nat.mul_one] at this
 show (ldS m a l.length).bind _=_
 rw [this,Option.bind_some,Tv];rfl
theorem ub {α:Type} {k:Nat} {enc:α→List Value} (hk:∀ x,(enc x).length=k):∀ (l:List α) (n:Nat),(l.take n).flatMap enc=(l.flatMap enc).take (n*k)
 | [],n=>by simp
 | x::r,0=>by simp
 | x::r,n+1=>by
  rw [List.take_succ_cons,List.flatMap_cons,List.flatMap_cons,ub hk r n,List.take_append,hk]
  rw [List.take_of_length_le (l:=enc x) (by rw [hk,Nat.add_mul];omega),show (n+1)*k - k=n*k from by rw [Nat.add_mul];omega]
theorem Lc {α:Type} {k:Nat} {enc:α→List Value} (hk:∀ x,(enc x).length=k):∀ (l:List α) (n:Nat),(l.drop n).flatMap enc=(l.flatMap enc).drop (n*k)
 | [],n=>by simp
 | x::r,0=>by simp
 | x::r,n+1=>by
  rw [List.drop_succ_cons,List.flatMap_cons,Lc hk r n,List.drop_append,hk]
  have h1:(enc x).drop ((n+1)*k)=[]:=List.drop_eq_nil_iff.2 (by rw [hk,Nat.add_mul];omega)
  rw [h1,List.nil_append,show (n+1)*k - k=n*k from by rw [Nat.add_mul];omega]
theorem RdS.cut {α:Type} {k:Nat} {enc:α→List Value} {a:Option Addr} {c:Nat} {l:List α} (k0:0 < k) (h:RdS k enc m (.slice a l.length c) l) (lo hi:Nat) (h1:lo≤hi) (h2:hi≤l.length) :
  ∃ a' c',xy k a c lo hi=some (.slice a' (hi - lo) c')∧RdS k enc m (.slice a' (hi - lo) c') ((l.take hi).drop lo)∧qH (.slice a' (hi - lo) c')=qH (.slice a (hi - lo) c'):=by
 obtain ⟨hk,a0,c0,e,hc,hr⟩:=h
 cases e
 have hlen:((l.take hi).drop lo).length=hi - lo:=by simp;omega
 have hcut:(0:Int)≤lo∧(lo:Int)≤hi∧(hi:Int)≤c:=by omega
 refine ⟨if c=lo then a else a.map (·.add (lo*k)),c - lo,?_,⟨hk,_,_,by rw [hlen],by rw [hlen];omega,?_⟩,?_⟩
 ·unfold xy
  rw [if_pos hcut]
  simp only [Int.toNat_natCast]
 ·rw [Lc hk,ub hk]
  by_cases e:hi=lo
  ·left
   subst e
   rw [List.drop_eq_nil_iff,List.length_take];omega
  ·rcases hr with h0 | ⟨b,o,rfl,hcell⟩
   ·exfalso
    have:=jI hk l
    rw [h0] at this
    have h3:0 < l.length*k:=Nat.mul_pos (by omega) k0
    simp at this;omega
   ·right
    refine ⟨b,o+lo*k,?_,fun i v hv=>?_⟩
    ·rw [if_neg (by omega)];simp [xT]
    ·rw [List.getElem?_drop,List.getElem?_take] at hv
     split at hv
     ·rw [Nat.add_assoc];exact hcell _ _ hv
     ·cases hv
 ·split
  ·rfl
  ·cases a with
   | none=>rfl
   | some a=>simp only [Option.map_some,qH,Addr.add];split<;>rfl
theorem RdS.nil {α:Type} {k:Nat} {enc:α→List Value} (hk:∀ x,(enc x).length=k) (m:Mem):RdS k enc m (.slice none 0 0) ([]:List α):=⟨hk,none,0,rfl,by simp,.inl rfl⟩
theorem Rd1.st {a:Option Addr} {l:List Value} {n c:Nat} (h:Rd1 m a l) (e:∀ b∈qH (.slice a n c),m' b=m b):Rd1 m' a l:=by
 rcases h with rfl | ⟨b,o,rfl,hc⟩
 ·exact .inl rfl
 ·exact .inr ⟨b,o,rfl,fun i v hv=>by rw [e b (by simp [qH])];exact hc i v hv⟩
theorem RdS.st {α:Type} {k:Nat} {enc:α→List Value} {v:Value} {l:List α} (h:RdS k enc m v l) (e:∀ b∈qH v,m' b=m b):RdS k enc m' v l:=by
 obtain ⟨hk,a,c,rfl,hc,hr⟩:=h
 exact ⟨hk,a,c,rfl,hc,hr.st e⟩
abbrev byA (t:TypeId) (v:Value) (l:List UInt8):As:=qK t 1 v l.length (bys l)
theorem zt {t:TypeId} {v:Value} {l:List UInt8} (h:(byA t v l).p m):RdB m v l:=Own.rds (by omega) qqM h
theorem tj {t:TypeId} {v:Value} {l r:List UInt8}:qK t 1 v (l.length+r.length) (bys l++bys r)=byA t v (l++r):=by
 have:l.length+r.length=(l++r).length:=by simp
 rw [this,← qZn]
theorem qJv (n:Nat) (h:n < 256):Value.int .u8 (n:Int)=bv (UInt8.ofNat n):=by
 have:(UInt8.ofNat n).toNat=n:=by simp;omega
 rw [bv,this]
theorem qya (s:ByteArray):(s.data.toList.map fun (c:UInt8)=>Value.int .u8 c.toNat)=bys s.data.toList:=by rw [CP]
end
end Go.Fw
namespace Go.Fw
open Go
theorem AY {m:Mem} (x:Nat) (h:x < 2 ^ 64):rd (.ibt .and) [.int .u64 (x:Int),.int .u64 1] m=some (.int .u64 ((x % 2:Nat):Int)):=by
 show some (Value.int .u64 (IntKind.u64.wrap _))=_
 congr 2
 have:(BitVec.ofInt IntKind.u64.bits (x:Int) &&& BitVec.ofInt IntKind.u64.bits 1).toNat=x % 2:=by
  show (BitVec.ofInt 64 (x:Int) &&& BitVec.ofInt 64 1).toNat=_
  rw [BitVec.toNat_and,BitVec.toNat_ofInt,BitVec.toNat_ofInt]
  have h1:((x:Int) % ((2 ^ 64:Nat):Int)).toNat=x:=by omega
  have h2:((1:Int) % ((2 ^ 64:Nat):Int)).toNat=2 ^ 1 - 1:=by decide
  rw [h1,h2,Nat.and_two_pow_sub_one_eq_mod]
 rw [this,u64_in];omega
theorem Pa {m:Mem} (x:Int) (h : -9223372036854775808≤x∧x≤9223372036854775807):rd (.ibt .xor) [.int .i64 x,.int .i64 0] m=some (.int .i64 x):=by
 show some (Value.int .i64 (IntKind.i64.wrap _))=_
 congr 2
 have:(BitVec.ofInt IntKind.i64.bits x ^^^ BitVec.ofInt IntKind.i64.bits 0).toNat=(x % 18446744073709551616).toNat:=by
  show (BitVec.ofInt 64 x ^^^ BitVec.ofInt 64 0).toNat=_
  rw [BitVec.toNat_xor,BitVec.toNat_ofInt,BitVec.toNat_ofInt]
  simp
 rw [this,IntKind.wrap_i64];omega
theorem PY {m:Mem} (x:Int) (h : -9223372036854775808≤x∧x≤9223372036854775807):rd (.ibt .xor) [.int .i64 x,.int .i64 (-1)] m=some (.int .i64 (-x - 1)):=by
 show some (Value.int .i64 (IntKind.i64.wrap _))=_
 congr 2
 have:(BitVec.ofInt IntKind.i64.bits x ^^^ BitVec.ofInt IntKind.i64.bits (-1)).toNat=18446744073709551615 - (x % 18446744073709551616).toNat:=by
  show (BitVec.ofInt 64 x ^^^ BitVec.ofInt 64 (-1)).toNat=_
  have e:BitVec.ofInt 64 (-1)=BitVec.allOnes 64:=by decide
  rw [e,BitVec.xor_allOnes,BitVec.toNat_not,BitVec.toNat_ofInt]
  simp
 rw [this,IntKind.wrap_i64];omega
theorem PX {m:Mem} (x:Nat) (h:x < 2 ^ 64):rd (.ibt .xor) [.int .u64 (x:Int),.int .u64 0] m=some (.int .u64 (x:Int)):=by
 show some (Value.int .u64 (IntKind.u64.wrap _))=_
 congr 2
 have:(BitVec.ofInt IntKind.u64.bits (x:Int) ^^^ BitVec.ofInt IntKind.u64.bits 0).toNat=x:=by
  show (BitVec.ofInt 64 (x:Int) ^^^ BitVec.ofInt 64 0).toNat=_
  rw [BitVec.toNat_xor,BitVec.toNat_ofInt,BitVec.toNat_ofInt]
  simp;omega
 rw [this,u64_in];omega
theorem PJ {m:Mem} (x:Nat) (h:x < 2 ^ 64):rd (.ibt .xor) [.int .u64 (x:Int),.int .u64 18446744073709551615] m=some (.int .u64 ((18446744073709551615 - x:Nat):Int)):=by
 show some (Value.int .u64 (IntKind.u64.wrap _))=_
 congr 2
 have:(BitVec.ofInt IntKind.u64.bits (x:Int) ^^^ BitVec.ofInt IntKind.u64.bits 18446744073709551615).toNat=18446744073709551615 - x:=by
  show (BitVec.ofInt 64 (x:Int) ^^^ BitVec.ofInt 64 18446744073709551615).toNat=_
  have e:BitVec.ofInt 64 18446744073709551615=BitVec.allOnes 64:=by decide
  rw [e,BitVec.xor_allOnes,BitVec.toNat_not,BitVec.toNat_ofInt]
  simp;omega
 rw [this,u64_in];omega
end Go.Fw
