import Derived.Test.YtimedjfpihdffaaGreatFv
import Derived.IntWalk
import Derived.KernelRfl
set_option linter.unusedVariables false
set_option linter.unusedSimpArgs false
set_option maxHeartbeats 16000000
namespace Go.Fw
universe u
section
variable {P:Program} {L:Nat→Value} {E:Env} {σ:Env} {m:Mem} {K:Env→Mem→Prop} {Q:Exit→Env→Mem→Prop}
structure Lk{α:Sort u}(a:α):Type where
 mk ::
def bO(o:Option Value)(K:Value→Prop)(_:Lk K):Prop:=Uk o K
theorem qye(v:Value)(K:Value→Prop)(l:Lk K):bO (some v) K l=K v:=by
 apply propext;exact ⟨λ⟨u,e,h⟩=>(by cases e;exact h),λh=>⟨v,rfl,h⟩⟩
def gQ(b:Option Bool)(want:Bool)(y n:Prop)(_:Lk y)(_:Lk n):Prop:=(b=some want→y)∧(b≠some want→n)
theorem gQ_tt(y n:Prop)(l:Lk y)(l':Lk n):gQ (some true) true y n l l'=y:=by simp [gQ]
theorem gQ_ff(y n:Prop)(l:Lk y)(l':Lk n):gQ (some false) false y n l l'=y:=by simp [gQ]
theorem gQ_tf(y n:Prop)(l:Lk y)(l':Lk n):gQ (some true) false y n l l'=n:=by simp [gQ]
theorem gQ_ft(y n:Prop)(l:Lk y)(l':Lk n):gQ (some false) true y n l l'=n:=by simp [gQ]
theorem qwm(w:Bool)(y n:Prop)(l:Lk y)(l':Lk n):gQ none w y n l l'=n:=by simp [gQ]
theorem qE{b:Bool}{w:Bool}{y n:Prop}{l:Lk y}{l':Lk n}(h:b=w→y)(h':b=!w→n):gQ (some b) w y n l l' :=
 ⟨λe=>h (Option.some.inj e),λe=>h' (by cases b<;>cases w<;>simp_all)⟩
def outE(E:Env)(m:Mem)(K:Env→Mem→Prop)(_:Lk K):Prop:=K E m
theorem qjB(l:Lk K):outE E m K l=K E m:=rfl
def evO(L:Nat→Value)(σ:Env):List (Nat×X)→Env
 | []=>[]
 | (t,x)::r=>(t,x.ev L σ)::evO L σ r
theorem qJv(outs:List (Nat×X)):(outs.map λp=>(p.1,p.2.ev L σ))=evO L σ outs:=by
 induction outs with
 | nil=>rfl
 | cons p r ih=>simp [evO,ih]
def evA(L:Nat→Value)(σ:Env):List X→List Value
 | []=>[]
 | x::r=>x.ev L σ::evA L σ r
theorem sB(l:List X):l.map (X.ev L σ)=evA L σ l:=by
 induction l with
 | nil=>rfl
 | cons p r ih=>simp [evA,ih]
theorem qwR(outs:List (Nat×X)):etP P L (.out outs) σ m K=outE (evO L σ outs) m K ⟨⟩:=by simp only [etP,qJv];rfl
theorem qJJ(i:Nat)(ro:RO)(args:List X)(k:ET):etP P L (.q i ro args none k) σ m K=bO (rd ro (evA L σ args) m) (λv=>etP P L k ((i,v)::σ) m K) ⟨⟩:=by
 simp only [etP,gP,sB];rfl
theorem qJZ(i:Nat)(ro:RO)(args:List X)(x:X)(w:Bool)(k:ET):etP P L (.q i ro args (some (x,w)) k) σ m K =
  gQ (asB (x.ev L σ)) w (bO (rd ro (evA L σ args) m) (λv=>etP P L k ((i,v)::σ) m K) ⟨⟩) (etP P L k ((i,undef)::σ) m K) ⟨⟩ ⟨⟩:=by
 simp only [etP,gP,sB,gQ];rfl
def xsP(P:Program)(ro:RO)(args:List Value)(m:Mem)(K:Value→Mem→Prop)(_:Lk K):Prop:=xs P ro args m K
def rcQ(A B:Prop)(_:Lk B):Prop:=A∧B
theorem qji(B:Prop)(l:Lk B):rcQ True B l=B:=by simp [rcQ]
theorem qZf{A B:Prop}(l:Lk B)(h:A):rcQ A B l=B:=by simp [rcQ,h]
theorem qJy(i:Nat)(ro:RO)(args:List X)(rc:List (Nat×RO×List X×Gd))(k:ET):etP P L (.x i ro args none rc k) σ m K =
  xsP P ro (evA L σ args) m (λv m'=>rcQ (rcP L ((i,v)::σ) m' rc) (etP P L k ((i,v)::σ) m' K) ⟨⟩) ⟨⟩:=by
 simp only [etP,gP,sB];rfl
theorem qJw(i:Nat)(ro:RO)(args:List X)(x:X)(w:Bool)(rc:List (Nat×RO×List X×Gd))(k:ET):etP P L (.x i ro args (some (x,w)) rc k) σ m K =
  gQ (asB (x.ev L σ)) w (xsP P ro (evA L σ args) m (λv m'=>rcQ (rcP L ((i,v)::σ) m' rc) (etP P L k ((i,v)::σ) m' K) ⟨⟩) ⟨⟩) (etP P L k ((i,undef)::σ) m K) ⟨⟩ ⟨⟩:=by
 simp only [etP,gP,sB,gQ];rfl
def both(A B:Prop)(_:Lk A)(_:Lk B):Prop:=A∧B
theorem qp{A B:Prop}{l:Lk A}{l':Lk B}(h:A)(h':B):both A B l l':=⟨h,h'⟩
theorem qxi(a b:ET):etP P L (.both a b) σ m K=both (etP P L a σ m K) (etP P L b σ m K) ⟨⟩ ⟨⟩:=rfl
theorem qJQ:etP P L .tt σ m K=True:=rfl
theorem qvs:rcP L σ m []=True:=rfl
theorem qjl(i:Nat)(ro:RO)(args:List X)(r:List (Nat×RO×List X×Gd)):rcP L σ m ((i,ro,args,none)::r)=rcQ (rd ro (evA L σ args) m=some (σ.get i)) (rcP L σ m r) ⟨⟩:=by
 simp only [rcP,gP,sB];rfl
theorem UU(i:Nat)(ro:RO)(args:List X)(x:X)(w:Bool)(r:List (Nat×RO×List X×Gd)):rcP L σ m ((i,ro,args,some (x,w))::r) =
  rcQ (gQ (asB (x.ev L σ)) w (rd ro (evA L σ args) m=some (σ.get i)) True ⟨⟩ ⟨⟩) (rcP L σ m r) ⟨⟩:=by
 simp only [rcP,gP,sB,gQ,rcQ]
theorem qzv:wpN P .skip Q E m=Q .normal E m:=rfl
theorem qkn(et:ET)(ins:List Nat):wpN P (.reg et ins) Q E m=rcQ (jb E ins=true) (etP P E.get et [] m λL' m'=>Q .normal L' m') ⟨⟩:=rfl
theorem YX(a b:NC):wpN P (.seq a b) Q E m=wpN P a (Mn (wpN P b Q) Q) E m:=rfl
def bU(t:Bool)(A B:Prop)(_:Lk A)(_:Lk B):Prop:=bP t A B
theorem EY(A B:Prop)(l:Lk A)(l':Lk B):bU true A B l l'=A:=by simp [bU,bP]
theorem uK(A B:Prop)(l:Lk A)(l':Lk B):bU false A B l l'=B:=by simp [bU,bP]
theorem ql{t:Bool}{A B:Prop}{l:Lk A}{l':Lk B}(h:t=true→A)(h':t=false→B):bU t A B l l':=⟨h,h'⟩
theorem bT{p:Prop}[Decidable p]{A B:Prop}{l:Lk A}{l':Lk B}(h:p→A)(h':¬ p→B):bU (decide p) A B l l':=⟨λe=>h (of_decide_eq_true e),λe=>h' (of_decide_eq_false e)⟩
theorem qqH{p:Prop}[Decidable p](A B:Prop)(l:Lk A)(l':Lk B)(h:p):bU (decide p) A B l l'=A:=by rw [decide_eq_true h,EY]
theorem qqL{p:Prop}[Decidable p](A B:Prop)(l:Lk A)(l':Lk B)(h:¬ p):bU (decide p) A B l l'=B:=by rw [decide_eq_false h,uK]
def qxE(v:Value)(A B:Prop)(_:Lk A)(_:Lk B):Prop:=TN v A B
theorem Sw(t:Bool)(A B:Prop)(l:Lk A)(l':Lk B):qxE (.bool t) A B l l'=bU t A B l l':=by simp [qxE,TN,bU]
theorem qzQ(x:X)(a b:NC):wpN P (.cond x a b) Q E m=rcQ (jb E x.used=true) (qxE (x.ev E.get []) (wpN P a Q E m) (wpN P b Q E m) ⟨⟩ ⟨⟩) ⟨⟩:=rfl
theorem Ud(id:Nat)(c:NC):wpN P (.block id c) Q E m=wpN P c (aI id Q) E m:=rfl
theorem qzy(id:Nat):wpN P (.exit id) Q E m=Q (.exit id) E m:=rfl
theorem qkm:wpN P .ret Q E m=Q .ret E m:=rfl
def qyM(P:Program)(ks:List Nat)(c:NC)(Q:Exit→Env→Mem→Prop)(E:Env)(m:Mem)(_:Lk c)(_:Lk Q)(_:Lk E)(_:Lk m):Prop:=wpN P (.loop ks c) Q E m
theorem qzw(ks:List Nat)(c:NC):wpN P (.loop ks c) Q E m=qyM P ks c Q E m ⟨⟩ ⟨⟩ ⟨⟩ ⟨⟩:=rfl
theorem qe{ks:List Nat}{c:NC}{l1:Lk c}{l2:Lk Q}{l3:Lk E}{l4:Lk m}(I:Nat→Env→Mem→Prop)(n:Nat)(hh:jb E ks=true)(h0:I n (only E ks) m)(h:∀ n E m,I n E m→wpN P c (BD ks I n Q) E m):qyM P ks c Q E m l1 l2 l3 l4:=⟨hh,I,⟨n,h0⟩,h⟩
theorem Hu{next:Env→Mem→Prop}:Mn next Q .normal E m=next E m:=rfl
theorem PA{next:Env→Mem→Prop}(id:Nat):Mn next Q (.exit id) E m=Q (.exit id) E m:=rfl
theorem Ur{next:Env→Mem→Prop}:Mn next Q .ret E m=Q .ret E m:=rfl
theorem Gf(id:Nat):aI id Q .normal E m=Q .normal E m:=rfl
theorem Sr(id:Nat):aI id Q .ret E m=Q .ret E m:=rfl
theorem Ss(id:Nat):aI id Q (.exit id) E m=Q .normal E m:=by simp [aI]
theorem PK(id id':Nat)(h:id'≠id):aI id Q (.exit id') E m=Q (.exit id') E m:=by simp [aI,h]
def qyR(I:Nat→Env→Mem→Prop)(n:Nat)(E:Env)(m:Mem)(_:Lk I)(_:Lk n):Prop:=∃ n',n' < n∧I n' E m
theorem qK{I:Nat→Env→Mem→Prop}{n:Nat}{l:Lk I}{l':Lk n}(n':Nat)(h:n' < n)(h':I n' E m):qyR I n E m l l':=⟨n',h,h'⟩
theorem EL(ks:List Nat)(I:Nat→Env→Mem→Prop)(n:Nat):BD ks I n Q .normal E m=rcQ (jb E ks=true) (qyR I n (only E ks) m ⟨⟩ ⟨⟩) ⟨⟩:=rfl
theorem MD(ks:List Nat)(I:Nat→Env→Mem→Prop)(n id:Nat):BD ks I n Q (.exit id) E m=Q (.exit id) E m:=rfl
theorem PN(ks:List Nat)(I:Nat→Env→Mem→Prop)(n:Nat):BD ks I n Q .ret E m=Q .ret E m:=rfl
def bY(rvs:List RV)(R:Value→Mem→Prop)(E:Env)(m:Mem)(_:Lk R)(_:Lk E):Prop:=jb E (rvs.map RV.jI)=true∧∃ vs,Qh E m rvs=some vs∧R (WZ vs) m
theorem ME(rvs:List RV)(R:Value→Mem→Prop):vB rvs R .normal E m=bY rvs R E m ⟨⟩ ⟨⟩:=rfl
theorem qjJ(rvs:List RV)(R:Value→Mem→Prop):vB rvs R .ret E m=bY rvs R E m ⟨⟩ ⟨⟩:=rfl
def post(R:Value→Mem→Prop)(v:Value)(m:Mem)(_:Lk R):Prop:=R v m
theorem qyx(t:Nat)(R:Value→Mem→Prop)(l:Lk R)(l':Lk E):bY [.qq t] R E m l l'=rcQ (E.has t=true) (post R (E.get t) m ⟨⟩) ⟨⟩:=by
 simp [bY,jb,RV.jI,Qh,RV.val,WZ,rcQ,post]
theorem qxs(t n:Nat)(R:Value→Mem→Prop)(l:Lk R)(l':Lk E):bY [.cells t n] R E m l l'=rcQ (E.has t=true) (bO (rd (.lda n) [E.get t] m) (λv=>post R v m ⟨⟩) ⟨⟩) ⟨⟩:=by
 simp only [bY,jb,List.map_cons,List.map_nil,RV.jI,List.all_cons,List.all_nil,Bool.and_true,Qh,RV.val,rcQ,bO,Uk,post]
 apply propext
 constructor
 ·rintro ⟨h,vs,hv,hR⟩
  obtain ⟨v,hv',h2⟩:=Option.bind_eq_some_iff.1 hv
  simp only [Option.map_some,Option.some.injEq] at h2;subst h2
  exact ⟨h,v,hv',hR⟩
 ·rintro ⟨h,v,hv,hR⟩
  exact ⟨h,[v],by simp [hv],hR⟩
theorem qyk(R:Value→Mem→Prop)(l:Lk R)(l':Lk E):bY [] R E m l l'=post R (.tuple #[]) m ⟨⟩:=by
 simp [bY,jb,Qh,WZ,post]
theorem qyj(t u:Nat)(R:Value→Mem→Prop)(l:Lk R)(l':Lk E):bY [.qq t,.qq u] R E m l l'=rcQ (E.has t=true∧E.has u=true) (post R (.tuple #[E.get t,E.get u]) m ⟨⟩) ⟨⟩:=by
 simp [bY,jb,RV.jI,Qh,RV.val,WZ,rcQ,post]
theorem Xh{R:Value→Mem→Prop}{v:Value}{l:Lk R}(h:R v m):post R v m l:=h
theorem qwl(j:Nat)(v:Value)(r:Env):Env.get ((j,v)::r) j=v:=by simp [Env.get]
theorem qxY(j:Nat)(v:Value)(r:Env)(i:Nat)(h:i≠j):Env.get ((j,v)::r) i=Env.get r i:=by simp [Env.get,h]
theorem qwg(j:Nat)(v:Value)(r:Env):Env.has ((j,v)::r) j=true:=by simp [Env.has]
theorem qxW(j:Nat)(v:Value)(r:Env)(i:Nat)(h:i≠j):Env.has ((j,v)::r) i=Env.has r i:=by simp [Env.has,h]
theorem RI:jb E []=true:=rfl
theorem NA(t:Nat)(r:List Nat):jb E (t::r)=(E.has t && jb E r):=rfl
theorem qjD:only E []=[]:=rfl
theorem qqZ(t:Nat)(r:List Nat):only E (t::r)=(t,E.get t)::only E r:=rfl
theorem qwP(t:Nat):(X.qq t).ev L σ=L t:=rfl
theorem qJk(t:Nat):(X.qz t).ev L σ=σ.get t:=rfl
theorem qxh(v:Value):(X.const v).ev L σ=v:=rfl
theorem ev_fn(f:Nat):(X.fn f).ev L σ=.func (.func f) #[] #[]:=rfl
theorem Ui(t:Nat):(X.qq t).used=[t]:=rfl
theorem Pp(v:Value):(X.const v).used=[]:=rfl
theorem qzz(i:Nat):lC i []=[]:=rfl
theorem Ua(i:Nat)(v:Value)(r:List Value):lC i (v::r)=(i,v)::lC (i+1) r:=rfl
attribute [go_sem ↓] qwR qJJ qJZ qJy qJw qxi qJQ qvs qjl UU
attribute [go_sem ↓] qzv qkn YX qzQ Ud qzy qkm qzw Hu PA Ur Gf Sr Ss PK EL MD PN ME qjJ
attribute [go_sem ↓] qwl qxY qwg qxW
attribute [go_sem] qZf qye gQ_tt gQ_ff gQ_tf gQ_ft qwm qjB evO evA qji EY uK qqH qqL Sw qyx qyk qyj qxs
attribute [go_sem] RI NA qjD qqZ qwP qJk qxh ev_fn Ui Pp qzz Ua Bool.and_true Bool.true_and asB
theorem qvi(c:Bool)(a b:Value):rd .pick [.bool c,a,b] m=some (if c then a else b):=rfl
theorem qje(a:Addr):rd .nilck [.pointer (some a)] m=some (.pointer (some a)):=rfl
theorem qZK(off:Nat)(a:Addr):rd (.fld off) [.pointer (some a)] m=some (.pointer (some (a.add off))):=rfl
theorem qjg(size:Nat)(a:Addr)(n c:Nat)(k:IntKind)(i:Int)(h:0≤i∧i < n):rd (.ixs size) [.slice (some a) n c,.int k i] m=some (.pointer (some (a.add (i.toNat*size)))):=by
 show (if _ then _ else _)=_;rw [if_pos h];rfl
theorem qZQ(len size:Nat)(a:Addr)(k:IntKind)(i:Int)(h:0≤i∧i < len):rd (.ixa len size) [.pointer (some a),.int k i] m=some (.pointer (some (a.add (i.toNat*size)))):=by
 show (if _ then _ else _)=_;rw [if_pos h]
theorem rd_ld(a:Addr):rd .ld [.pointer (some a)] m=cell m a:=rfl
theorem Rx(n:Nat)(a:Addr):rd (.lda n) [.pointer (some a)] m=(jD m a 0 n).map λl=>.agg l.toArray:=rfl
theorem qQU(off:Nat)(cs:Array Value):rd (.prt off) [.agg cs] m=cs[off]?:=rfl
theorem qvh(off n:Nat)(cs:Array Value):rd (.prta off n) [.agg cs] m=some (.agg (cs.extract off (off+n))):=rfl
theorem qZV(i:Nat)(cs:Array Value):rd (.ext i) [.tuple cs] m=cs[i]?:=rfl
theorem qZe(k:IntKind)(a b:Int):rd (.iar .add) [.int k a,.int k b] m=some (.int k (k.wrap (a+b))):=by simp [rd,rdp,RO.reads,i2]
theorem qQS(k:IntKind)(a b:Int):rd (.iar .sub) [.int k a,.int k b] m=some (.int k (k.wrap (a - b))):=by simp [rd,rdp,RO.reads,i2]
theorem qZj(k:IntKind)(a b:Int):rd (.iar .mul) [.int k a,.int k b] m=some (.int k (k.wrap (a*b))):=by simp [rd,rdp,RO.reads,i2]
theorem qQT(k:IntKind)(a b:Int)(h:b≠0):rd (.idv .quo) [.int k a,.int k b] m=some (.int k (k.wrap (a.tdiv b))):=by simp [rd,rdp,RO.reads,i2,h]
theorem lL(k:IntKind)(a b:Int)(h:b≠0):rd (.idv .rem) [.int k a,.int k b] m=some (.int k (a.tmod b)):=by simp [rd,rdp,RO.reads,i2,h]
theorem qZa(k:IntKind)(a b:Int):rd (.icm .eql) [.int k a,.int k b] m=some (.bool (decide (a=b))):=by
 simp only [rd,rdp,RO.reads,i2,if_true];congr 2
theorem qZq(k:IntKind)(a b:Int):rd (.icm .neq) [.int k a,.int k b] m=some (.bool (decide (a≠b))):=by
 simp only [rd,rdp,RO.reads,i2,if_true];congr 2;by_cases h:a=b<;>simp [h]
theorem qZv(k:IntKind)(a b:Int):rd (.icm .lss) [.int k a,.int k b] m=some (.bool (decide (a < b))):=by simp [rd,rdp,RO.reads,i2]
theorem qZw(k:IntKind)(a b:Int):rd (.icm .leq) [.int k a,.int k b] m=some (.bool (decide (a≤b))):=by simp [rd,rdp,RO.reads,i2]
theorem qZJ(k:IntKind)(a b:Int):rd (.icm .gtr) [.int k a,.int k b] m=some (.bool (decide (b < a))):=by simp [rd,rdp,RO.reads,i2]
theorem qZX(k:IntKind)(a b:Int):rd (.icm .geq) [.int k a,.int k b] m=some (.bool (decide (b≤a))):=by simp [rd,rdp,RO.reads,i2]
theorem qvp(a:Option Addr):rd (.eqp false) [.pointer a,.pointer none] m=some (.bool a.isNone):=by simp [rd,rdp,RO.reads,eqp]
theorem qvo(a:Option Addr):rd (.eqp true) [.pointer a,.pointer none] m=some (.bool a.isSome):=by simp [rd,rdp,RO.reads,eqp]
theorem rd_not(a:Bool):rd .not [.bool a] m=some (.bool !a):=rfl
theorem qZz(k:IntKind)(n:Int):rd .neg [.int k n] m=some (.int k (k.wrap (0 - n))):=rfl
theorem qvr(k k':IntKind)(n:Int):rd (.conv k) [.int k' n] m=some (.int k (k.wrap n)):=rfl
theorem qZy(a:Option Addr)(n c:Nat):rd .len [.slice a n c] m=some (.int .i64 n):=rfl
theorem qvl(s:ByteArray):rd .lenz [.string s] m=some (.int .i64 s.size):=rfl
theorem rd_mn(k:IntKind)(a b:Int):rd .mn [.int k a,.int k b] m=some (.int k (min a b)):=by
 show (Option.bind (mn2 _ _) λu=>bW mn2 u [])=_
 simp only [mn2,if_true,Option.bind_some,bW];congr 2;omega
theorem rd_mx(k:IntKind)(a b:Int):rd .mx [.int k a,.int k b] m=some (.int k (max a b)):=by
 show (Option.bind (mx2 _ _) λu=>bW mx2 u [])=_
 simp only [mx2,if_true,Option.bind_some,bW];congr 2;omega
theorem qjc(size:Nat)(a:Option Addr)(n c:Nat):rd (.slc size false false) [.slice a n c] m=xG size a c 0 n:=rfl
theorem jA(size:Nat)(a:Option Addr)(n c:Nat)(k:IntKind)(lo:Int):rd (.slc size true false) [.slice a n c,.int k lo] m=xG size a c lo n:=rfl
theorem ed(size:Nat)(a:Option Addr)(n c:Nat)(k:IntKind)(hi:Int):rd (.slc size false true) [.slice a n c,.int k hi] m=xG size a c 0 hi:=rfl
theorem qjb(size:Nat)(a:Option Addr)(n c:Nat)(k k':IntKind)(lo hi:Int):rd (.slc size true true) [.slice a n c,.int k lo,.int k' hi] m=xG size a c lo hi:=rfl
theorem qZx(t:TypeId)(v:Value):rd (.mki t) [v] m=some (.iface t v):=rfl
attribute [go_sem] qvi qje qZK qjg qZQ rd_ld qQU qvh qZV qZe qQS qZj qQT lL qZa qZq qZv qZw qZJ qZX qvp qvo rd_not qZz qvr qZy qvl rd_mn rd_mx qjc jA ed qjb qZx
attribute [go_sem] Int.toNat_natCast Int.toNat_zero IntWalk.i64_in and_true true_and
def cellAt(o:Option Obj)(i:Nat):Option Value :=
 match o with
 | some (.cells c _ _)=>c[i]?
 | _=>none
theorem cN(b o:Nat):cell m ⟨b,o,none⟩=cellAt (m b) o:=by
 unfold cell cellAt
 cases m b with
 | none=>rfl
 | some x=>cases x<;>rfl
theorem JE(c:Array Value)(t:TypeId)(fr:Nat×Nat)(i:Nat):cellAt (some (.cells c t fr)) i=c[i]?:=rfl
theorem xH(b o n:Nat):Addr.add ⟨b,o,none⟩ n=⟨b,o+n,none⟩:=by unfold Addr.add;split<;>simp_all
theorem Jq(b:Nat)(o:Obj):(m.set b o) b=some o:=by simp [Mem.set]
theorem PH(b:Nat)(o:Obj)(c:Nat)(h:c≠b):(m.set b o) c=m c:=by simp [Mem.set,h]
theorem set_set(b:Nat)(o o':Obj):(m.set b o).set b o'=m.set b o':=by funext c;simp only [Mem.set];split<;>rfl
def putAt(o:Option Obj)(i:Nat)(v:Value):Option Obj :=
 match o with
 | some (.cells c t fr)=>if i < c.size∧¬ (fr.1≤i∧i < fr.2) then some (.cells (c.setIfInBounds i v) t fr) else none
 | _=>none
def PW(o:Option Obj)(K:Obj→Prop)(_:Lk K):Prop:=∃ v,o=some v∧K v
theorem Hc(v:Obj)(K:Obj→Prop)(l:Lk K):PW (some v) K l=K v:=by
 apply propext;exact ⟨λ⟨u,e,h⟩=>(by cases e;exact h),λh=>⟨v,rfl,h⟩⟩
theorem tH(c:Array Value)(t:TypeId)(i:Nat)(v:Value)(h:i < c.size):putAt (some (.cells c t (0,0))) i v=some (.cells (c.setIfInBounds i v) t (0,0)):=by
 simp [putAt,h]
theorem qkk(c:Array Value)(t:TypeId)(i:Nat)(v:Value)(K:Obj→Prop)(l:Lk K):PW (putAt (some (.cells c t (0,0))) i v) K l=rcQ (i < c.size) (K (.cells (c.setIfInBounds i v) t (0,0))) ⟨⟩:=by
 by_cases h:i < c.size
 ·rw [tH c t i v h,Hc];simp [rcQ,h]
 ·simp [putAt,h,PW,rcQ]
theorem Ta(b o:Nat)(v:Value):qqq m ⟨b,o,none⟩ v=(putAt (m b) o v).map λx=>m.set b x:=by
 unfold qqq putAt
 cases m b with
 | none=>rfl
 | some x =>
  cases x<;>try rfl
  rename_i c t fr
  simp only
  by_cases h1:o < c.size
  ·by_cases h2:fr.1≤o∧o < fr.2
   ·simp [h1,h2]
   ·have:(decide (fr.1≤o) && decide (o < fr.2))=false:=by simpa using h2
    simp [h1,h2,this]
  ·simp [h1]
def wrO(m:Mem)(b:Nat)(o:Obj)(J:Mem→Prop)(_:Lk J)(_:Lk m):Prop:=J (m.set b o)
theorem Ho(b o:Nat)(v:Value)(K:Value→Mem→Prop)(l:Lk K)(h:v.oneCell'=true):xsP P (.st 1) [.pointer (some ⟨b,o,none⟩),v] m K l=PW (putAt (m b) o v) (λx=>wrO m b x (K undef) ⟨⟩ ⟨⟩) ⟨⟩:=by
 have hc:v.cells=#[v]:=by cases v<;>first | rfl | (simp [Value.oneCell'] at h)
 simp only [xsP,xs,pP,hc,jW,h,if_true,xH,Nat.add_zero,Ta]
 apply propext
 constructor
 ·rintro ⟨_,m',hm,hk⟩
  obtain ⟨m1,hm1,hm2⟩:=Option.bind_eq_some_iff.1 hm
  obtain ⟨x,hx,rfl⟩:=Option.map_eq_some_iff.1 hm1
  cases hm2
  exact ⟨x,hx,hk⟩
 ·rintro ⟨x,hx,hk⟩
  exact ⟨rfl,m.set b x,by rw [hx];rfl,hk⟩
theorem Pg(b o:Nat)(k:IntKind)(n:Int)(K:Value→Mem→Prop)(l:Lk K):xsP P (.st 1) [.pointer (some ⟨b,o,none⟩),.int k n] m K l=PW (putAt (m b) o (.int k n)) (λx=>wrO m b x (K undef) ⟨⟩ ⟨⟩) ⟨⟩:=Ho b o _ K l rfl
theorem Hm(b o:Nat)(a:Option Addr)(n c:Nat)(K:Value→Mem→Prop)(l:Lk K):xsP P (.st 1) [.pointer (some ⟨b,o,none⟩),.slice a n c] m K l=PW (putAt (m b) o (.slice a n c)) (λx=>wrO m b x (K undef) ⟨⟩ ⟨⟩) ⟨⟩:=Ho b o _ K l rfl
theorem Pf(b o:Nat)(a:Option Addr)(K:Value→Mem→Prop)(l:Lk K):xsP P (.st 1) [.pointer (some ⟨b,o,none⟩),.pointer a] m K l=PW (putAt (m b) o (.pointer a)) (λx=>wrO m b x (K undef) ⟨⟩ ⟨⟩) ⟨⟩:=Ho b o _ K l rfl
theorem Et(b o:Nat)(s:ByteArray)(K:Value→Mem→Prop)(l:Lk K):xsP P (.st 1) [.pointer (some ⟨b,o,none⟩),.string s] m K l=PW (putAt (m b) o (.string s)) (λx=>wrO m b x (K undef) ⟨⟩ ⟨⟩) ⟨⟩:=Ho b o _ K l rfl
def stQ(m:Mem)(a:Addr)(i:Nat)(l:List Value)(K:Mem→Prop)(_:Lk K)(_:Lk m):Prop:=∃ m',jW m a i l=some m'∧K m'
theorem qwq(k:IntKind)(n:Int):(Value.int k n).oneCell'=true:=rfl
theorem qjE(b:Bool):(Value.bool b).oneCell'=true:=rfl
theorem RQ(b:ByteArray):(Value.string b).oneCell'=true:=rfl
theorem qqJ(a:Option Addr)(n c:Nat):(Value.slice a n c).oneCell'=true:=rfl
theorem Nv(a:Option Addr):(Value.pointer a).oneCell'=true:=rfl
theorem qvU(a:Option Nat):(Value.map a).oneCell'=true:=rfl
theorem qQv(n:Nat)(a:Addr)(cs:Array Value)(K:Value→Mem→Prop)(l:Lk K):xsP P (.st n) [.pointer (some a),.agg cs] m K l=rcQ (cs.toList.length=n) (stQ m a 0 cs.toList (K undef) ⟨⟩ ⟨⟩) ⟨⟩:=by
 simp only [xsP,xs,pP,Value.cells,rcQ,stQ,Array.length_toList]
def YJ(o:Option Obj)(i n:Nat):Option Value :=
 match o with
 | some (.cells c _ _)=>if i+n≤c.size then some (.agg ((c.toList.drop i).take n).toArray) else none
 | _=>none
attribute [go_sem] qwq qjE RQ qqJ Nv qvU qQv
attribute [go_sem] List.getElem?_toArray List.setIfInBounds_toArray List.size_toArray List.extract_toArray List.getElem?_cons_zero List.getElem?_cons_succ List.set_cons_succ List.set_cons_zero
attribute [go_sem] List.drop_succ_cons List.drop_zero List.take_succ_cons List.take_zero List.getElem?_map List.length_map List.length_set List.extract_eq_take_drop Option.getD_some
def VX(P:Program)(f:Nat)(args:List Value)(m:Mem)(K:Value→Mem→Prop)(_:Lk K):Prop:=MC P f args m K
theorem qkg(f:Nat)(args:List Value)(K:Value→Mem→Prop)(l:Lk K):xsP P (.call f) args m K l=VX P f args m K l:=by
 simp only [xsP,VX];cases args<;>rfl
theorem jL{f:Nat}{args:List Value}{R K:Value→Mem→Prop}{l:Lk K}(h:MC P f args m R)(hk:∀ v m',R v m'→K v m'):VX P f args m K l:=MC.mono h hk
def NZ(m:Mem)(o:Obj)(J:Nat→Mem→Prop)(_:Lk J)(_:Lk m):Prop:=∀ b,m b=none→J b (m.set b o)
theorem qQw(t:TypeId)(bytes:Nat)(zero:List Value)(n c:Int)(K:Value→Mem→Prop)(l:Lk K)(h:0≤n∧n≤c∧c≤9223372036854775807∧bytes*c≤281474976710656):xsP P (.mks t bytes zero) [.int .i64 n,.int .i64 c] m K l =
  NZ m (.cells (List.replicate c.toNat zero).flatten.toArray t) (λb M=>K (.slice (some ⟨b,0,none⟩) n.toNat c.toNat) M) ⟨⟩ ⟨⟩:=by
 simp only [xsP,xs,iP,NZ,h,true_and]
theorem qQK(zero:List Value)(t:TypeId)(K:Value→Mem→Prop)(l:Lk K):xsP P (.alc zero t) [] m K l=NZ m (.cells zero.toArray t) (λb M=>K (.pointer (some ⟨b,0,none⟩)) M) ⟨⟩ ⟨⟩:=rfl
theorem qQJ(t:TypeId)(v:Value)(K:Value→Mem→Prop)(l:Lk K):xsP P (.box t) [v] m K l=NZ m (.cells v.cells t) (λb M=>K (.pointer (some ⟨b,0,none⟩)) M) ⟨⟩ ⟨⟩:=rfl
theorem qZd(zero:List Value)(ps:List (Nat×Nat))(vs:List Value):rd (.bld zero ps) vs m=(lay zero ps vs).map λl=>.agg l.toArray:=rfl
theorem qkA(l:Array Value):vcl (.agg l)=l.toList:=rfl
theorem qku(k:IntKind)(n:Int):vcl (.int k n)=[.int k n]:=rfl
theorem qzW(b:Bool):vcl (.bool b)=[.bool b]:=rfl
theorem Po(b:ByteArray):vcl (.string b)=[.string b]:=rfl
theorem Uh(a:Option Addr)(n c:Nat):vcl (.slice a n c)=[.slice a n c]:=rfl
theorem Mb(a:Option Addr):vcl (.pointer a)=[.pointer a]:=rfl
theorem qkt(a:Option Nat):vcl (.map a)=[.map a]:=rfl
theorem qwW(c:List Value):lay c [] []=some c:=rfl
theorem qxv(x:Value)(c:List Value)(off size:Nat)(ps:List (Nat×Nat))(v:Value)(vs:List Value):lay (x::c) ((off,size)::ps) (v::vs)=if (vcl v).length=size then (spl off (vcl v) (x::c)).bind λcs=>lay cs ps vs else none:=rfl
theorem qvk(c:List Value):spl 0 [] c=some c:=by cases c<;>rfl
theorem qzS(v:Value)(vs:List Value)(x:Value)(c:List Value):spl 0 (v::vs) (x::c)=(spl 0 vs c).map (v::·):=rfl
theorem qzT(n:Nat)(vs:List Value)(x:Value)(c:List Value):spl (n+1) vs (x::c)=(spl n vs c).map (x::·):=by cases vs<;>rfl
def bL(o:Option (List Value))(K:List Value→Prop)(_:Lk K):Prop:=∃ v,o=some v∧K v
theorem qyf(v:List Value)(K:List Value→Prop)(l:Lk K):bL (some v) K l=K v:=by
 apply propext;exact ⟨λ⟨u,e,h⟩=>(by cases e;exact h),λh=>⟨v,rfl,h⟩⟩
theorem qQZ(t:TypeId)(len:Nat)(zero:List Value)(ps:List (Nat×Nat))(vs:List Value)(K:Value→Mem→Prop)(l:Lk K):xsP P (.bsl t len zero ps) vs m K l =
  bL (lay zero ps vs) (λl=>NZ m (.cells l.toArray t) (λb M=>K (.slice (some ⟨b,0,none⟩) len len) M) ⟨⟩ ⟨⟩) ⟨⟩:=by
 simp only [xsP,xs];rfl
def SC(P:Program)(t:TypeId)(size bytes:Nat)(zero:List Value)(x y:Value)(m:Mem)(K:Value→Mem→Prop)(_:Lk K)(_:Lk x)(_:Lk m):Prop:=xs P (.app t size bytes zero) [x,y] m K
theorem qQX(t:TypeId)(size bytes:Nat)(zero:List Value)(x y:Value)(K:Value→Mem→Prop)(l:Lk K):xsP P (.app t size bytes zero) [x,y] m K l=SC P t size bytes zero x y m K ⟨⟩ ⟨⟩ ⟨⟩:=rfl
def cpyQ(P:Program)(size:Nat)(x y:Value)(m:Mem)(K:Value→Mem→Prop)(_:Lk K)(_:Lk x)(_:Lk m):Prop:=xs P (.cpy size) [x,y] m K
theorem qQQ(size:Nat)(x y:Value)(K:Value→Mem→Prop)(l:Lk K):xsP P (.cpy size) [x,y] m K l=cpyQ P size x y m K ⟨⟩ ⟨⟩ ⟨⟩:=rfl
attribute [go_sem] qZd qkA qku qzW Po Uh Mb qkt qwW qxv qvk qzS qzT qyf qQZ qQX qQQ List.length_cons List.length_nil eq_self ite_true ite_false Option.bind_some
attribute [go_sem] cN JE xH Jq PH set_set qkk Hc Pg Hm Pf Et qkg qQw qQK qQJ
attribute [go_sem] Option.map_some Option.map_none Nat.mul_one Nat.zero_add Nat.add_zero
theorem qke{f:Nat}{fn:Func}{F:FN}(hf:P.funcs[f]?=some fn)(hc:TO P fn=some F)(hm:P.follows .mixedOrders=true){args:List Value}{R:Value→Mem→Prop}(hn:args.length≤fn.ntmps)(h:wpN P F.code (vB F.rvs R) (lC 0 args) m):MC P f args m R:=MC_of hf hc hm hn h
end
end Go.Fw
namespace Go.Fw
open Go
def Fr(m m':Mem)(S:List Nat):Prop:=∀ b,m b≠none→b∉S→m' b=m b
theorem Fr.refl(m:Mem)(S:List Nat):Fr m m S:=λ_ _ _=>rfl
theorem Fr.trans{a b c:Mem}{S T:List Nat}(h:Fr a b S)(g:Fr b c T)(hT:∀ x∈T,a x≠none→x∈S):Fr a c S:=λx hx hS=>by
 have h1:=h x hx hS
 rw [g x (by rw [h1];exact hx) (λhxT=>hS (hT x hxT hx)),h1]
theorem Fr.VY{a b c:Mem}{S:List Nat}(h:Fr a b S)(g:Fr b c []):Fr a c S:=h.trans g (λ_ hx=>by cases hx)
theorem Fr.cZ{a b c:Mem}{S:List Nat}(h:Fr a b S)(g:Fr b c S):Fr a c S:=h.trans g (λ_ hx _=>hx)
theorem Fr.sub{a b:Mem}{S T:List Nat}(h:Fr a b S)(hs:∀ x∈S,x∈T):Fr a b T:=λx hx hT=>h x hx (λhS=>hT (hs x hS))
theorem Fr.new{m:Mem}{b:Nat}{o:Obj}(S:List Nat)(hb:m b=none):Fr m (m.set b o) S:=λx hx _=>by
 unfold Mem.set;rw [if_neg];rintro rfl;exact hx hb
theorem Fr.set{m:Mem}{b:Nat}{o:Obj}{S:List Nat}(hb:b∈S):Fr m (m.set b o) S:=λx _ hS=>by
 unfold Mem.set;rw [if_neg];rintro rfl;exact hS hb
theorem Fr.get{m m':Mem}{S:List Nat}(h:Fr m m' S){b:Nat}{o:Obj}(hb:m b=some o)(hS:b∉S):m' b=some o:=by
 rw [h b (by rw [hb];exact Option.some_ne_none _) hS,hb]
theorem Fr.xJ{m m':Mem}(h:Fr m m' []){b:Nat}{o:Obj}(hb:m b=some o):m' b=some o:=h.get hb (by simp)
theorem Fr.cellAt{m m':Mem}{S:List Nat}(h:Fr m m' S){b i:Nat}{v:Value}(hb:cellAt (m b) i=some v)(hS:b∉S):cellAt (m' b) i=some v:=by
 rw [h b (by intro e;rw [e] at hb;cases hb) hS];exact hb
theorem Fr.some{m m':Mem}{S:List Nat}(h:Fr m m' S){b:Nat}(hb:m b≠none)(hS:b∉S):m' b≠none:=by rw [h b hb hS];exact hb
def rb(n:Nat)(f:Nat→Bool):List Value:=(List.range n).map λi=>.bool (f i)
def Rd1(m:Mem)(a:Option Addr)(l:List Value):Prop:=l=[]∨∃ b o,a=some ⟨b,o,none⟩∧∀ i v,l[i]?=some v→cellAt (m b) (o+i)=some v
theorem Rd1.frame{m m':Mem}{a:Option Addr}{l:List Value}(h:Rd1 m a l)(f:Fr m m' []):Rd1 m' a l:=by
 rcases h with rfl | ⟨b,o,rfl,hc⟩
 ·exact .inl rfl
 ·exact .inr ⟨b,o,rfl,λi v hv=>f.cellAt (hc i v hv) (by simp)⟩
def qG:Value→List Nat
 | .slice (some a) _ _=>[a.block]
 | _=>[]
def Own(m:Mem)(t:TypeId)(size:Nat)(v:Value)(n:Nat)(xs:List Value):Prop :=
 xs.length=n*size∧((v=.slice none 0 0∧n=0)∨∃ b cap tail,v=.slice (some ⟨b,0,none⟩) n cap∧m b=some (.cells (xs++tail).toArray t (0,0))∧(xs++tail).length=cap*size)
theorem Own.nil(m:Mem)(t:TypeId)(size:Nat):Own m t size (.slice none 0 0) 0 []:=⟨by simp,.inl ⟨rfl,rfl⟩⟩
theorem Own.frame{m m':Mem}{t:TypeId}{size n:Nat}{v:Value}{xs:List Value}{S:List Nat}(h:Own m t size v n xs)(f:Fr m m' S)(hS:∀ b∈qG v,b∉S):Own m' t size v n xs:=by
 refine ⟨h.1,?_⟩
 rcases h.2 with h | ⟨b,cap,tail,rfl,hb,hl⟩
 ·exact .inl h
 ·exact .inr ⟨b,cap,tail,rfl,f.get hb (hS b (by simp [qG])),hl⟩
theorem Own.there{m:Mem}{t:TypeId}{size n:Nat}{v:Value}{xs:List Value}(h:Own m t size v n xs):∀ b∈qG v,m b≠none:=by
 rcases h.2 with ⟨rfl,_⟩ | ⟨b,cap,tail,rfl,hb,_⟩
 ·intro b hb;simp [qG] at hb
 ·intro b' hb';simp only [qG,List.mem_singleton] at hb';subst hb';rw [hb];exact Option.some_ne_none _
theorem Own.form{m:Mem}{t:TypeId}{size n:Nat}{v:Value}{xs:List Value}(h:Own m t size v n xs):∃ a c,v=.slice a n c:=by
 rcases h.2 with ⟨rfl,rfl⟩ | ⟨b,cap,tail,rfl,_⟩
 ·exact ⟨_,_,rfl⟩
 ·exact ⟨_,_,rfl⟩
theorem Ky{m:Mem}{b:Nat}{l:List Value}{t:TypeId}{fr:Nat×Nat}(hb:m b=some (.cells l.toArray t fr)):∀ (n i o:Nat),o+i+n≤l.length →
  jD m ⟨b,o,none⟩ i n=some ((l.drop (o+i)).take n)
 | 0,i,o,h=>by simp [jD]
 | n+1,i,o,h=>by
  have hlt:o+i < l.length:=by omega
  have hc:cell m (Addr.add ⟨b,o,none⟩ i)=some l[o+i]:=by
   rw [xH,cN,hb,JE];simp [hlt]
  rw [jD,hc,Option.bind_some,Ky hb n (i+1) o (by omega),Option.map_some]
  congr 1
  rw [List.drop_eq_getElem_cons hlt,List.take_succ_cons];rfl
theorem qjz{m:Mem}{b:Nat}{o:Obj}(h:m b=some o):m.set b o=m:=by
 funext x;unfold Mem.set;split
 ·rename_i e;subst e;exact h.symm
 ·rfl
theorem Kq{t:TypeId}{b o:Nat}:∀ (vs:List Value) (i:Nat) (m:Mem) (l:List Value),m b=some (.cells l.toArray t (0,0))→o+i+vs.length≤l.length→(∀ v∈vs,v.oneCell'=true) →
  jW m ⟨b,o,none⟩ i vs=some (m.set b (.cells (l.take (o+i)++vs++l.drop (o+i+vs.length)).toArray t (0,0)))
 | [],i,m,l,hb,_,_=>by
  simp only [jW,List.append_nil,List.length_nil,Nat.add_zero,List.take_append_drop]
  rw [qjz hb]
 | v::vs,i,m,l,hb,hl,h1=>by
  simp only [List.length_cons] at hl
  have hv:=h1 v (List.mem_cons_self ..)
  have hlt:o+i < l.length:=by omega
  simp only [jW,hv,if_true]
  have hp:qqq m (Addr.add ⟨b,o,none⟩ i) v=some (m.set b (.cells (l.set (o+i) v).toArray t (0,0))):=by
   rw [xH,Ta,hb,tH _ _ _ _ (by simpa using hlt)]
   simp
  rw [hp,Option.bind_some,Kq vs (i+1) _ (l.set (o+i) v) (t:=t) (by simp [Mem.set]) (by simp;omega) (λu hu=>h1 u (List.mem_cons_of_mem _ hu)),set_set]
  congr 4
  rw [List.take_set,List.drop_set_of_lt (by omega),show o+(i+1)=o+i+1 from by omega,List.take_succ_eq_append_getElem hlt]
  rw [List.set_append_right _ _ (by simp;omega)]
  simp only [List.length_take,Nat.min_eq_left (Nat.le_of_lt hlt),Nat.sub_self,List.set_cons_zero,List.append_assoc,List.cons_append,List.nil_append,List.length_cons]
  rw [show o+i+1+vs.length=o+i+(vs.length+1) from by omega]
theorem PY{t:TypeId}{size bytes:Nat}{zero:List Value}{x:Value}{m:Mem}{K:Value→Mem→Prop}{n k:Nat}{xs news:List Value}(h:Own m t size x n xs)(hk:news.length=k*size)(h1:∀ v∈news,v.oneCell'=true)(hz:zero.length=size)(hb:(n+k)*bytes≤140737488355328)(h62:n+k≤4611686018427387904)(hK:∀ v m',Own m' t size v (n+k) (xs++news)→Fr m m' (qG x)→(∀ b∈qG v,b∈qG x∨m b=none)→K v m'):∃ a cap,x=.slice a n cap∧Mz size bytes zero t m K a n cap news k:=by
 obtain ⟨hlen,hx⟩:=h
 have hzl:∀ j,((List.replicate j zero).flatten).length=j*size:=λj=>by simp [hz]
 rcases hx with ⟨rfl,rfl⟩ | ⟨bx,cap,tail,rfl,hbx,hcap⟩
 ·have hxs:xs=[]:=List.eq_nil_of_length_eq_zero (by simpa using hlen)
  subst hxs
  refine ⟨none,0,rfl,hb,h62,λhle=>?_,λhlt=>⟨[],rfl,λcc bb hcc hbb=>?_⟩⟩
  ·have hk0:k=0:=by omega
   subst hk0
   have hn0:news=[]:=List.eq_nil_of_length_eq_zero (by simpa using hk)
   subst hn0
   exact hK _ _ ⟨by simp,.inl ⟨rfl,rfl⟩⟩ (Fr.refl _ _) (λ_ hb=>.inl hb)
  ·refine hK _ _ ⟨by simp [hk],.inr ⟨bb,cc,(List.replicate (cc - (0+k)) zero).flatten,rfl,by simp [Mem.set],?_⟩⟩ (Fr.new _ hbb) (λb' hb'=>?_)
   ·simp only [List.nil_append,List.length_append,hk,hzl]
    rw [← Nat.add_mul];congr 1;omega
   ·simp only [qG,List.mem_singleton] at hb';subst hb';exact .inr hbb
 ·simp only [List.length_append] at hcap
  refine ⟨some ⟨bx,0,none⟩,cap,rfl,hb,h62,λhle=>?_,λhlt=>?_⟩
  ·have hle':(n+k)*size≤cap*size:=Nat.mul_le_mul_right _ hle
   rw [Nat.add_mul] at hle'
   have hst:=Kq (t:=t) (b:=bx) (o:=0) news (n*size) m (xs++tail) hbx (by simp only [List.length_append];omega) h1
   refine ⟨_,hst,hK _ _ ⟨by simp [hlen,hk,Nat.add_mul],.inr ⟨bx,cap,tail.drop news.length,rfl,?_,?_⟩⟩ (Fr.set (by simp [qG])) (λ_ hb=>.inl hb)⟩
   ·simp only [Mem.set,if_true,Nat.zero_add]
    congr 3
    rw [← hlen,List.take_left',List.append_assoc,List.append_assoc]
    ·congr 2
     rw [List.drop_append]
     simp
    ·rfl
   ·simp only [List.length_append,List.length_drop];omega
  ·have hold:ldS m (some ⟨bx,0,none⟩) (n*size)=some xs:=by
    simp only [ldS]
    rw [Ky hbx (n*size) 0 0 (by simp only [List.length_append];omega)]
    simp [← hlen]
   refine ⟨xs,hold,λcc bb hcc hbb=>hK _ _ ⟨by simp [hlen,hk,Nat.add_mul],.inr ⟨bb,cc,(List.replicate (cc - (n+k)) zero).flatten,rfl,by simp [Mem.set],?_⟩⟩ (Fr.new _ hbb) (λb' hb'=>?_)⟩
   ·simp only [List.length_append,hlen,hk,hzl]
    rw [← Nat.add_mul,← Nat.add_mul];congr 1;omega
   ·simp only [qG,List.mem_singleton] at hb';subst hb';exact .inr hbb
theorem BY{P:Program}{t:TypeId}{size bytes:Nat}{zero:List Value}{x y:Value}{m:Mem}{K:Value→Mem→Prop}{l:Lk K}{l1:Lk x}{l2:Lk m}{n k c:Nat}{b:Option Addr}{xs news:List Value}(h:Own m t size x n xs)(hy:y=.slice b k c)(hnews:ldS m b (k*size)=some news)(hk:news.length=k*size)(h1:∀ v∈news,v.oneCell'=true)(hz:zero.length=size)(hb:(n+k)*bytes≤140737488355328)(h62:n+k≤4611686018427387904)(hK:∀ v m',Own m' t size v (n+k) (xs++news)→Fr m m' (qG x)→(∀ b∈qG v,b∈qG x∨m b=none)→K v m'):SC P t size bytes zero x y m K l l1 l2:=by
 subst hy
 obtain ⟨a,cap,rfl,ha⟩:=PY (bytes:=bytes) (zero:=zero) h hk h1 hz hb h62 hK
 exact ⟨news,hnews,ha⟩
def qyi(P:Program)(t:TypeId)(x y:Value)(m:Mem)(K:Value→Mem→Prop)(_:Lk K)(_:Lk x)(_:Lk m):Prop:=xs P (.apps t) [x,y] m K
theorem qkh{P:Program}{m:Mem}(t:TypeId)(x y:Value)(K:Value→Mem→Prop)(l:Lk K):xsP P (.apps t) [x,y] m K l=qyi P t x y m K ⟨⟩ ⟨⟩ ⟨⟩:=rfl
attribute [go_sem] qkh
theorem qyh{P:Program}{t:TypeId}{x:Value}{m:Mem}{K:Value→Mem→Prop}{l:Lk K}{l1:Lk x}{l2:Lk m}{n:Nat}{s:ByteArray}{xs:List Value}(h:Own m t 1 x n xs)(hb:n+s.size≤140737488355328)(hK:∀ v m',Own m' t 1 v (n+s.size) (xs++s.data.toList.map λ(c:UInt8)=>Value.int .u8 c.toNat)→Fr m m' (qG x)→(∀ b∈qG v,b∈qG x∨m b=none)→K v m'):qyi P t x (.string s) m K l l1 l2:=by
 obtain ⟨a,cap,rfl,ha⟩:=PY (bytes:=1) (zero:=[.int .u8 0]) (k:=s.size) h (news:=s.data.toList.map λ(c:UInt8)=>Value.int .u8 c.toNat) (by rw [List.length_map,Array.length_toList,Nat.mul_one];rfl) (by
  intro v hv
  obtain ⟨c,_,rfl⟩:=List.mem_map.1 hv
  rfl) rfl (by omega) (by omega) hK
 exact ha
end Go.Fw
namespace Go.Fw
open Go
set_option linter.unusedSectionVars false
variable {α:Type} [DecidableEq α]
structure XI(ag:Bool)(ks:List LK)(enc:α→Value):Prop where
 fit:∀ x,xh ag (enc x)=true
 eq:∀ x y,qm ks (vcl (enc x)) (vcl (enc y))=some (decide (x=y))
theorem XI.ok{ag:Bool}{ks:List LK}{enc:α→Value}(h:XI ag ks enc)(x:α):dQ ag ks (enc x)=true:=by
 simp [dQ,h.fit,h.eq]
theorem XI.inj{ag:Bool}{ks:List LK}{enc:α→Value}(h:XI ag ks enc){x y:α}(e:enc x=enc y):x=y:=by
 have h1:=h.eq x y
 rw [e,h.eq y y] at h1
 simpa using h1.symm
def Kw(k:α):List (α×Value)→Nat→Option (Nat×Value)
 | [],_=>none
 | p::r,i=>if k=p.1 then some (i,p.2) else Kw k r (i+1)
def look(k:α)(l:List (α×Value)):Option Value:=(Kw k l 0).map (·.2)
def zz(l:List (α×Value)):List α:=l.map (·.1)
def gm(k:α)(v:Value)(l:List (α×Value)):List (α×Value):=if k∈zz l then l.map λp=>if p.1=k then (k,v) else p else l++[(k,v)]
def sC(k:α)(l:List (α×Value)):List (α×Value):=l.filter λp=>p.1≠k
structure aL(enc:α→Value)(es:Array MapEntry)(clock:Nat)(l:List (α×Value)):Prop where
 kv:es.toList.map (λe=>(e.key,e.val))=l.map (λp=>(enc p.1,p.2))
 nd:(zz l).Nodup
 bd:(es.toList.map (·.born)).Nodup
 lt:∀ e∈es.toList,e.born < clock
def VW(enc:α→Value)(m:Mem)(r:Nat)(l:List (α×Value)):Prop:=∃ es clock,m r=some (.map es clock)∧aL enc es clock l
theorem VW.frame{enc:α→Value}{m m':Mem}{r:Nat}{l:List (α×Value)}{S:List Nat}(h:VW enc m r l)(f:Fr m m' S)(hr:r∉S):VW enc m' r l:=by
 obtain ⟨es,c,hm,hh⟩:=h
 exact ⟨es,c,f.get hm hr,hh⟩
theorem VW.there{enc:α→Value}{m:Mem}{r:Nat}{l:List (α×Value)}(h:VW enc m r l):m r≠none:=by
 obtain ⟨es,c,hm,hh⟩:=h
 rw [hm];exact Option.some_ne_none _
theorem VW.nd{enc:α→Value}{m:Mem}{r:Nat}{l:List (α×Value)}(h:VW enc m r l):(zz l).Nodup:=by
 obtain ⟨es,c,hm,hh⟩:=h;exact hh.nd
theorem aL.len{enc:α→Value}{es:Array MapEntry}{c:Nat}{l:List (α×Value)}(h:aL enc es c l):es.size=l.length:=by
 have:=congrArg List.length h.kv
 simpa using this
theorem gd{ag:Bool}{ks:List LK}{enc:α→Value}(K:XI ag ks enc)(k:α):∀ (es:List MapEntry) (l:List (α×Value)) (i:Nat),
  es.map (λe=>(e.key,e.val))=l.map (λp=>(enc p.1,p.2))→Vt ag ks (enc k) es i=some (Kw k l i)
 | [],l,i,h=>by
  cases l with
  | nil=>rfl
  | cons p r=>simp at h
 | e::es,l,i,h=>by
  cases l with
  | nil=>simp at h
  | cons p r =>
   simp only [List.map_cons,List.cons.injEq,Prod.mk.injEq] at h
   obtain ⟨⟨h1,h2⟩,h3⟩:=h
   simp only [Vt,Kw,h1,h2,K.fit,K.eq,if_true,Option.bind_some,decide_eq_true_eq]
   split
   ·rfl
   ·exact gd K k es r (i+1) h3
theorem cA{k:α}:∀ {l:List (α×Value)} {i:Nat},Kw k l i=none→k∉zz l
 | [],_,_=>by simp [zz]
 | p::r,i,h=>by
  simp only [Kw] at h
  split at h
  ·cases h
  ·rename_i hn
   simp only [zz,List.map_cons,List.mem_cons,not_or]
   exact ⟨hn,cA h⟩
theorem Wc{k:α}:∀ {l:List (α×Value)} {i j:Nat} {v:Value},Kw k l i=some (j,v)→∃ n,j=i+n∧l[n]?=some (k,v)
 | [],_,_,_,h=>by simp [Kw] at h
 | p::r,i,j,v,h=>by
  simp only [Kw] at h
  split at h
  ·rename_i hk
   simp only [Option.some.injEq,Prod.mk.injEq] at h
   exact ⟨0,by omega,by rw [List.getElem?_cons_zero,hk,← h.2]⟩
  ·obtain ⟨n,hn,hg⟩:=Wc h
   exact ⟨n+1,by omega,by simpa using hg⟩
theorem qqd{k:α}{l:List (α×Value)}:look k l=none↔k∉zz l:=by
 constructor
 ·intro h;exact cA (by simpa [look] using h)
 ·intro h
  cases hl:Kw k l 0 with
  | none=>simp [look,hl]
  | some jv =>
   obtain ⟨n,_,hg⟩:=Wc (v:=jv.2) (j:=jv.1) hl
   exact absurd (List.mem_map.2 ⟨_,List.mem_of_getElem? hg,rfl⟩) h
theorem qqc{k:α}{l:List (α×Value)}{v:Value}(h:look k l=some v):(k,v)∈l:=by
 cases hl:Kw k l 0 with
 | none=>simp [look,hl] at h
 | some jv =>
  simp only [look,hl,Option.map_some,Option.some.injEq] at h
  obtain ⟨n,_,hg⟩:=Wc (v:=jv.2) (j:=jv.1) hl
  rw [h] at hg
  exact List.mem_of_getElem? hg
section ops
variable {P:Program} {ag:Bool} {ks:List LK} {enc:α→Value} {m:Mem} {r:Nat} {l:List (α×Value)}
theorem qjf(K:XI ag ks enc)(h:VW enc m r l)(k:α)(zero:Value)(ok:Bool):rd (.lkp ag ks zero ok) [.map (some r),enc k] m =
  some (match look k l with | some v=>if ok then .tuple #[v,.bool true] else v | none=>if ok then .tuple #[zero,.bool false] else zero):=by
 obtain ⟨es,c,hm,hh⟩:=h
 show (if dQ ag ks (enc k) then (entriesOf m (.map (some r))).bind _ else none)=_
 rw [if_pos (K.ok k)]
 simp only [entriesOf,hm,Option.bind_some,gd K k _ l 0 hh.kv,Option.map_some,look]
 cases Kw k l 0 with
 | none=>rfl
 | some jv=>rfl
theorem TQ{k:α}{v:Value}:∀ {l:List (α×Value)} {n:Nat} {u:Value},(zz l).Nodup→l[n]?=some (k,u)→l.set n (k,v)=l.map λp=>if p.1=k then (k,v) else p
 | [],n,u,_,h=>by simp at h
 | p::r,0,u,hn,h=>by
  simp only [List.getElem?_cons_zero,Option.some.injEq] at h
  subst h
  simp only [zz,List.map_cons,List.nodup_cons] at hn
  simp only [List.set_cons_zero,List.map_cons,if_true]
  congr 1
  refine (List.map_id' _).symm.trans (List.map_congr_left λq hq=>?_)
  rw [if_neg]
  rintro rfl
  exact hn.1 (List.mem_map.2 ⟨q,hq,rfl⟩)
 | p::r,n+1,u,hn,h=>by
  simp only [List.getElem?_cons_succ] at h
  simp only [zz,List.map_cons,List.nodup_cons] at hn
  simp only [List.set_cons_succ,List.map_cons]
  rw [if_neg,TQ hn.2 h]
  intro e
  apply hn.1
  rw [e]
  exact List.mem_map.2 ⟨_,List.mem_of_getElem? h,rfl⟩
theorem erase_filter{k:α}:∀ {l:List (α×Value)} {n:Nat} {u:Value},(zz l).Nodup→l[n]?=some (k,u)→l.eraseIdx n=sC k l
 | [],n,u,_,h=>by simp at h
 | p::r,0,u,hn,h=>by
  simp only [List.getElem?_cons_zero,Option.some.injEq] at h
  subst h
  simp only [zz,List.map_cons,List.nodup_cons] at hn
  simp only [List.eraseIdx_cons_zero,sC,ne_eq,decide_not,List.filter_cons,decide_true,Bool.not_true,Bool.false_eq_true,if_false]
  refine (List.filter_eq_self.2 λq hq=>?_).symm
  simp only [Bool.not_eq_true',decide_eq_false_iff_not]
  rintro rfl
  exact hn.1 (List.mem_map.2 ⟨q,hq,rfl⟩)
 | p::r,n+1,u,hn,h=>by
  simp only [List.getElem?_cons_succ] at h
  simp only [zz,List.map_cons,List.nodup_cons] at hn
  have hne:p.1≠k:=by
   intro e
   apply hn.1
   rw [e]
   exact List.mem_map.2 ⟨_,List.mem_of_getElem? h,rfl⟩
  simp only [List.eraseIdx_cons_succ,erase_filter hn.2 h]
  simp [sC,hne]
theorem Wk{β γ:Type}(f:β→γ):∀ (l:List β) (n:Nat),(l.eraseIdx n).map f=(l.map f).eraseIdx n
 | [],_=>rfl
 | _::_,0=>rfl
 | _::r,n+1=>by simp [Wk f r n]
theorem HV{k:α}{l:List (α×Value)}(h:k∉zz l):sC k l=l:=by
 refine List.filter_eq_self.2 λq hq=>?_
 simp only [ne_eq,decide_not,Bool.not_eq_true',decide_eq_false_iff_not]
 rintro rfl
 exact h (List.mem_map.2 ⟨q,hq,rfl⟩)
theorem ot{k:α}{v:Value}{l:List (α×Value)}:zz (gm k v l)=if k∈zz l then zz l else zz l++[k]:=by
 unfold gm
 split
 ·simp only [zz,List.map_map]
  refine List.map_congr_left λp _=>?_
  simp only [Function.comp]
  split
  ·rename_i e;exact e.symm
  ·rfl
 ·simp [zz]
theorem DU{k:α}{l:List (α×Value)}:zz (sC k l)=(zz l).filter (·≠k):=by
 unfold zz sC
 rw [List.filter_map];rfl
theorem oQ(K:XI ag ks enc)(h:VW enc m r l){k:α}{v:Value}{K':Value→Mem→Prop}{lk:Lk K'}(hK:∀ m',VW enc m' r (gm k v l)→Fr m m' [r]→(∀ b,m b=none→m' b=none)→K' undef m'):xsP P (.mup ag ks) [.map (some r),enc k,v] m K' lk:=by
 obtain ⟨es,c,hm,hh⟩:=h
 refine ⟨r,rfl,K.ok k,es,c,hm,Kw k l 0,gd K k _ l 0 hh.kv,?_⟩
 have hnone:∀ o b,m b=none→(m.set r o) b=none:=λo b hb=>by
  rw [Mem.set,if_neg];exact hb
  rintro rfl;rw [hm] at hb;cases hb
 cases hl:Kw k l 0 with
 | none =>
  have hk:=cA hl
  refine hK _ ⟨_,_,by simp [Mem.set];exact ⟨rfl,rfl⟩,?_,?_,?_,?_⟩ (Fr.set (by simp)) (hnone _)
  ·simp [gm,hk,hh.kv]
  ·rw [ot,if_neg hk]
   exact List.nodup_append.2 ⟨hh.nd,by simp,λa ha b hb=>by simp at hb;rintro rfl;exact hk (hb▸ha)⟩
  ·simp only [Array.toList_push,List.map_append,List.map_cons,List.map_nil]
   refine List.nodup_append.2 ⟨hh.bd,by simp,λa ha b hb=>?_⟩
   simp only [List.mem_singleton] at hb
   obtain ⟨e,he,rfl⟩:=List.mem_map.1 ha
   have:=hh.lt e he
   omega
  ·intro e he
   simp only [Array.toList_push,List.mem_append,List.mem_singleton] at he
   rcases he with he | rfl
   ·have:=hh.lt e he;omega
   ·exact Nat.lt_succ_self _
 | some jv =>
  obtain ⟨j,u⟩:=jv
  obtain ⟨n,hj,hg⟩:=Wc hl
  have hj:n=j:=by omega
  subst hj
  have hk:k∈zz l:=List.mem_map.2 ⟨_,List.mem_of_getElem? hg,rfl⟩
  have hlt:n < l.length:=(List.getElem?_eq_some_iff.1 hg).1
  have hlt':n < es.size:=by rw [hh.len];exact hlt
  have hset:(es.modify n λe=>{ e with key:=enc k,val:=v }).toList=es.toList.set n { es[n] with key:=enc k,val:=v }:=by
   apply List.ext_getElem?
   intro i
   simp only [Array.getElem?_toList,Array.getElem?_modify,List.getElem?_set,Array.length_toList]
   split
   ·rename_i e;subst e;simp [hlt']
   ·rfl
  refine hK _ ⟨_,_,by simp [Mem.set];exact ⟨rfl,rfl⟩,?_,?_,?_,?_⟩ (Fr.set (by simp)) (hnone _)
  ·rw [hset,List.map_set,hh.kv]
   simp only [gm,if_pos hk]
   rw [← TQ hh.nd hg,List.map_set]
  ·rw [ot,if_pos hk];exact hh.nd
  ·rw [hset,List.map_set]
   have:(es.toList.map (·.born)).set n es[n].born=es.toList.map (·.born):=by
    apply List.ext_getElem?
    intro i
    rw [List.getElem?_set]
    split
    ·rename_i e;subst e;simp [hlt']
    ·rfl
   rw [this];exact hh.bd
  ·intro e he
   rw [hset] at he
   rcases List.mem_or_eq_of_mem_set he with he | rfl
   ·exact hh.lt e he
   ·exact hh.lt es[n] (by simp)
def xo(enc:α→Value)(m:Mem)(b r:Nat)(l:List (α×Value))(done:List α):Prop :=
 ∃ es clock seen,m r=some (.map es clock)∧aL enc es clock l∧m b=some (.mapIter (some r) clock seen clock)∧done.Nodup∧(∀ x∈done,x∈zz l) ∧
  ∀ e∈es.toList,∀ x,e.key=enc x→(seen.contains e.born=true↔x∈done)
theorem xo.map{b:Nat}{done:List α}(h:xo enc m b r l done):VW enc m r l:=by
 obtain ⟨es,c,seen,hm,hh,_⟩:=h;exact ⟨es,c,hm,hh⟩
theorem xo.frame{b:Nat}{done:List α}{m':Mem}{S:List Nat}(h:xo enc m b r l done)(f:Fr m m' S)(hb:b∉S)(hr:r∉S):xo enc m' b r l done:=by
 obtain ⟨es,c,seen,hm,hh,hi,h1⟩:=h;exact ⟨es,c,seen,f.get hm hr,hh,f.get hi hb,h1⟩
theorem xo.there{b:Nat}{done:List α}(h:xo enc m b r l done):m b≠none:=by
 obtain ⟨es,c,seen,hm,hh,hi,h1⟩:=h;rw [hi];exact Option.some_ne_none _
theorem AP(h:VW enc m r l){K':Value→Mem→Prop}{lk:Lk K'}(hK:∀ b m',m b=none→xo enc m' b r l []→Fr m m' []→K' (.pointer (some ⟨b,0,none⟩)) m'):xsP P .rng [.map (some r)] m K' lk:=by
 obtain ⟨es,c,hm,hh⟩:=h
 refine ⟨es,c,hm,λb hb=>hK b _ hb ⟨es,c,#[],?_,hh,by simp [Mem.set],by simp,by simp,λe he x hx=>by simp⟩ (Fr.new _ hb)⟩
 rw [Mem.set,if_neg]
 ·exact hm
 ·rintro rfl;rw [hm] at hb;cases hb
theorem aL.at{es:Array MapEntry}{c:Nat}(h:aL enc es c l){e:MapEntry}(he:e∈es.toList):∃ p∈l,e.key=enc p.1∧e.val=p.2:=by
 have:(e.key,e.val)∈l.map (λp=>(enc p.1,p.2)):=by rw [← h.kv];exact List.mem_map.2 ⟨e,he,rfl⟩
 obtain ⟨p,hp,e1⟩:=List.mem_map.1 this
 simp only [Prod.mk.injEq] at e1
 exact ⟨p,hp,e1.1.symm,e1.2.symm⟩
theorem aL.key{es:Array MapEntry}{c:Nat}(h:aL enc es c l){x:α}(hx:x∈zz l):∃ e∈es.toList,e.key=enc x:=by
 obtain ⟨p,hp,rfl⟩:=List.mem_map.1 hx
 have:(enc p.1,p.2)∈es.toList.map (λe=>(e.key,e.val)):=by rw [h.kv];exact List.mem_map.2 ⟨p,hp,rfl⟩
 obtain ⟨e,he,e1⟩:=List.mem_map.1 this
 simp only [Prod.mk.injEq] at e1
 exact ⟨e,he,e1.1⟩
theorem Cr{l:List MapEntry}(h:(l.map (·.born)).Nodup){e e':MapEntry}(he:e∈l)(he':e'∈l)(hb:e.born=e'.born):e=e':=by
 induction l with
 | nil=>cases he
 | cons x r ih =>
  simp only [List.map_cons,List.nodup_cons] at h
  rcases List.mem_cons.1 he with rfl | h1<;>rcases List.mem_cons.1 he' with rfl | h2
  ·rfl
  ·exact absurd (List.mem_map.2 ⟨e',h2,hb.symm⟩) h.1
  ·exact absurd (List.mem_map.2 ⟨e,h1,hb⟩) h.1
  ·exact ih h.2 h1 h2
theorem aL.uniq{es:Array MapEntry}{c:Nat}(K:XI ag ks enc)(h:aL enc es c l){e e':MapEntry}(he:e∈es.toList)(he':e'∈es.toList)(hk:e.key=e'.key):e=e':=by
 have hn:(es.toList.map (·.key)).Nodup:=by
  have h1:es.toList.map (·.key)=(zz l).map enc:=by
   have:=congrArg (List.map Prod.fst) h.kv
   simpa [zz,List.map_map,Function.comp_def] using this
  rw [h1]
  exact h.nd.map enc λa b hab e=>hab (K.inj e)
 generalize es.toList=L at *
 induction L with
 | nil=>cases he
 | cons x r ih =>
  simp only [List.map_cons,List.nodup_cons] at hn
  rcases List.mem_cons.1 he with rfl | h1<;>rcases List.mem_cons.1 he' with rfl | h2
  ·rfl
  ·exact absurd (List.mem_map.2 ⟨e',h2,hk.symm⟩) hn.1
  ·exact absurd (List.mem_map.2 ⟨e,h1,hk⟩) hn.1
  ·exact ih h1 h2 hn.2
theorem Bj(K:XI ag ks enc){b:Nat}{done:List α}(h:xo enc m b r l done){K':Value→Mem→Prop}{lk:Lk K'}(hend:(zz l).Perm done→K' (.tuple #[.bool false]) m)(hnext:∀ k v m',(k,v)∈l→k∉done→xo enc m' b r l (done++[k])→rd .ent [.pointer (some ⟨b,0,none⟩)] m'=some (.tuple #[enc k,v])→Fr m m' [b]→(∀ b,m b=none→m' b=none)→K' (.tuple #[.bool true,enc k,v]) m') :
  xsP P .nxt [.pointer (some ⟨b,0,none⟩)] m K' lk:=by
 obtain ⟨es,c,seen,hm,hh,hi,hd,hsub,hs⟩:=h
 have hbr:b≠r:=by rintro rfl;rw [hm] at hi;cases hi
 refine ⟨rfl,some r,c,seen,c,hi,es,c,hm,?_,?_,?_⟩
 ·cases hes:es.toList with
  | nil=>simp [show es=#[] from by simpa using hes]
  | cons e r' =>
   have hlt:=hh.lt e (by rw [hes];exact List.mem_cons_self ..)
   have:es.all (λx=>decide (x.born≥c))=false:=by
    rw [← Bool.not_eq_true,Array.all_eq_true_iff_forall_mem]
    intro hall
    have:=hall e (Array.mem_toList_iff.1 (by rw [hes];exact List.mem_cons_self ..))
    simp at this;omega
   rw [this];simp
 ·intro hall
  apply hend
  refine (List.perm_ext_iff_of_nodup hh.nd hd).2 λx=>⟨λhx=>?_,hsub x⟩
  obtain ⟨e,he,hk⟩:=hh.key hx
  refine (hs e he x hk).1 ?_
  cases hc:seen.contains e.born with
  | true=>rfl
  | false=>exact absurd (hh.lt e he) (hall e he hc)
 ·intro e he hc
  obtain ⟨p,hp,hk,hv⟩:=hh.at he
  have hnd:p.1∉done:=λhx=>by
   have:=(hs e he p.1 hk).2 hx
   rw [hc] at this;cases this
  rw [hk,hv]
  refine hnext p.1 p.2 _ hp hnd ⟨es,c,seen.push e.born,?_,hh,by simp [Mem.set],?_,?_,?_⟩ ?_ (Fr.set (by simp)) ?_
  ·rw [Mem.set,if_neg (Ne.symm hbr)];exact hm
  ·exact List.nodup_append.2 ⟨hd,by simp,λa ha b hb=>by simp at hb;rintro rfl;exact hnd (hb▸ha)⟩
  ·intro x hx
   rcases List.mem_append.1 hx with hx | hx
   ·exact hsub x hx
   ·simp only [List.mem_singleton] at hx;subst hx;exact List.mem_map.2 ⟨p,hp,rfl⟩
  ·intro e' he' x hx
   simp only [Array.contains_push,Bool.or_eq_true,beq_iff_eq,List.mem_append,List.mem_singleton,hs e' he' x hx]
   constructor
   ·rintro (h1 | h1)
    ·exact .inl h1
    ·have:=Cr hh.bd he' he h1
     subst this
     exact .inr (K.inj (hx.symm.trans hk))
   ·rintro (h1 | h1)
    ·exact .inl h1
    ·subst h1
     exact .inr (congrArg (·.born) (hh.uniq K he' he (hx.trans hk.symm)))
  ·rw [show ∀ m a,rd .ent [.pointer (some a)] m=By m a from λ_ _=>rfl]
   have hfind:es.find? (λx=>x.born == e.born)=some e:=by
    rw [← Array.find?_toList]
    have hmem:=he
    have hbd:=hh.bd
    generalize es.toList=L at hmem hbd
    induction L with
    | nil=>cases hmem
    | cons x rr ih =>
     rw [List.find?_cons]
     by_cases hx:x.born=e.born
     ·simp only [hx,beq_self_eq_true]
      exact congrArg some (Cr hbd (List.mem_cons_self ..) hmem hx)
     ·have:(x.born == e.born)=false:=by simpa using hx
      simp only [this]
      refine ih ?_ (List.nodup_cons.1 hbd).2
      rcases List.mem_cons.1 hmem with rfl | hm'
      ·exact absurd rfl hx
      ·exact hm'
   simp only [By,if_true,Mem.set,Array.back?_push,if_neg (Ne.symm hbr),hm,hfind,Option.map_some,hk,hv]
  ·intro b' hb'
   rw [Mem.set,if_neg]
   ·exact hb'
   ·rintro rfl;rw [hi] at hb';cases hb'
theorem NR(K:XI ag ks enc){b:Nat}{done:List α}(h:xo enc m b r l done){k:α}{K':Value→Mem→Prop}{lk:Lk K'}(hK:∀ m',xo enc m' b r (sC k l) (done.filter (·≠k))→Fr m m' [r]→(∀ b,m b=none→m' b=none)→K' (.tuple #[]) m'):xsP P (.dlt ag ks) [.map (some r),enc k] m K' lk:=by
 obtain ⟨es,c,seen,hm,hh,hi,hd,hsub,hs⟩:=h
 have hbr:b≠r:=by rintro rfl;rw [hm] at hi;cases hi
 refine ⟨K.ok k,es,c,hm,Kw k l 0,gd K k _ l 0 hh.kv,?_⟩
 have hnone:∀ o b,m b=none→(m.set r o) b=none:=λo b hb=>by
  rw [Mem.set,if_neg];exact hb
  rintro rfl;rw [hm] at hb;cases hb
 cases hl:Kw k l 0 with
 | none =>
  have hk:=cA hl
  have hdk:done.filter (·≠k)=done:=List.filter_eq_self.2 λx hx=>by simp;rintro rfl;exact hk (hsub _ hx)
  refine hK _ ⟨es,c,seen,by simp [Mem.set],?_,?_,?_,?_,?_⟩ (Fr.set (by simp)) (hnone _)
  ·rw [HV hk];exact hh
  ·rw [Mem.set,if_neg hbr];exact hi
  ·rw [hdk];exact hd
  ·rw [hdk,HV hk];exact hsub
  ·rw [hdk];exact hs
 | some jv =>
  obtain ⟨j,u⟩:=jv
  obtain ⟨n,hj,hg⟩:=Wc hl
  have hj:n=j:=by omega
  subst hj
  have hlt:n < l.length:=(List.getElem?_eq_some_iff.1 hg).1
  have hlt':n < es.size:=by rw [hh.len];exact hlt
  have hset:(es.eraseIdxIfInBounds n).toList=es.toList.eraseIdx n:=by simp [Array.eraseIdxIfInBounds,hlt']
  refine hK _ ⟨_,_,seen,by simp [Mem.set];exact ⟨rfl,rfl⟩,⟨?_,?_,?_,?_⟩,?_,?_,?_,?_⟩ (Fr.set (by simp)) (hnone _)
  ·rw [hset,Wk,hh.kv,← erase_filter hh.nd hg,Wk]
  ·rw [DU];exact hh.nd.filter _
  ·rw [hset,Wk];exact hh.bd.sublist (List.eraseIdx_sublist _ _)
  ·intro e he
   rw [hset] at he
   exact hh.lt e ((List.eraseIdx_sublist _ _).subset he)
  ·rw [Mem.set,if_neg hbr];exact hi
  ·exact hd.filter _
  ·intro x hx
   rw [DU]
   rw [List.mem_filter] at hx ⊢
   exact ⟨hsub x hx.1,hx.2⟩
  ·intro e he x hx
   rw [hset] at he
   have he':=(List.eraseIdx_sublist _ _).subset he
   rw [hs e he' x hx,List.mem_filter]
   refine ⟨λh=>⟨h,?_⟩,λh=>h.1⟩
   simp only [ne_eq,decide_not,Bool.not_eq_true',decide_eq_false_iff_not]
   rintro rfl
   have hkeys:(es.toList.eraseIdx n).map (·.key)=(zz (sC x l)).map enc:=by
    have h1:(es.toList.eraseIdx n).map (λe=>(e.key,e.val))=(sC x l).map (λp=>(enc p.1,p.2)):=by
     rw [Wk,hh.kv,← erase_filter hh.nd hg,Wk]
    have:=congrArg (List.map Prod.fst) h1
    simpa [zz,List.map_map,Function.comp_def] using this
   have hmem:e.key∈(es.toList.eraseIdx n).map (·.key):=List.mem_map.2 ⟨e,he,rfl⟩
   rw [hkeys,DU] at hmem
   obtain ⟨y,hy,hye⟩:=List.mem_map.1 hmem
   rw [hx] at hye
   have:=K.inj hye
   subst this
   simp at hy
end ops
end Go.Fw
namespace Go.Fw
open Go
section
variable {P:Program} {L:Nat→Value} {E:Env} {σ:Env} {m:Mem} {K:Env→Mem→Prop} {Q:Exit→Env→Mem→Prop}
theorem qZ{p:Prop}[Decidable p](h:p):decide p=true:=decide_eq_true h
theorem qX{p:Prop}[Decidable p](h:¬ p):decide p=false:=decide_eq_false h
theorem rd_mv(v:Value):rd .mv [v] m=some v:=rfl
theorem qZb(ng:Bool)(ks:List LK)(xs ys:Array Value):rd (.eqc ng ks) [.agg xs,.agg ys] m=(qm ks xs.toList ys.toList).map λb=>.bool (if ng then !b else b):=rfl
theorem QU:qm [] [] []=some true:=rfl
theorem jo(k:LK)(ks:List LK)(x y:Value)(xs ys:List Value):qm (k::ks) (x::xs) (y::ys)=(le1 k x y).bind λb=>(qm ks xs ys).map (b && ·):=rfl
theorem Hk(k:IntKind)(a b:Int):le1 (.i k) (.int k a) (.int k b)=some (decide (a=b)):=by
 simp only [le1,and_self,if_true];congr 1
theorem qyN(a b:Bool):le1 .b (.bool a) (.bool b)=some (decide (a=b)):=by
 simp only [le1];cases a<;>cases b<;>rfl
theorem Tn(a b:ByteArray):le1 .s (.string a) (.string b)=some (a.data.toList == b.data.toList):=rfl
theorem qZc(a:Option Addr)(n c:Nat):rd .cap [.slice a n c] m=some (.int .i64 c):=rfl
theorem qZY(ng:Bool)(a:Option Nat):rd (.eqm ng) [.map a,.map none] m=some (.bool (if ng then a.isSome else a.isNone)):=rfl
theorem qZW(ng:Bool)(a:Option Addr)(n c n' c':Nat):rd (.eqs ng) [.slice a n c,.slice none n' c'] m=some (.bool (if ng then a.isSome else a.isNone)):=rfl
theorem qZk(fn:Fn)(n:Nat)(vs:List Value):rd (.mkf fn n) vs m=some (.func fn (vs.take n).toArray (vs.drop n).toArray):=by
 cases vs<;>rfl
theorem qvm(n:Nat)(v:Value):rd (.lenk n) [v] m=some (.int .i64 n):=rfl
theorem qQy(K:Value→Mem→Prop)(l:Lk K):xsP P .mkm [] m K l=NZ m (.map #[] 0) (λb M=>K (.map (some b)) M) ⟨⟩ ⟨⟩:=rfl
theorem nh(f:Nat)(a c:Array Value)(vs:List Value)(K:Value→Mem→Prop)(l:Lk K):xsP P .callv (.func (.func f) a c::vs) m K l=rcQ (VJ P f=true) (VX P f (a.toList++vs++c.toList) m K l) ⟨⟩:=by
 simp only [xsP,xs,fP,VX,rcQ]
attribute [go_sem] rd_mv qZb QU jo Hk qyN Tn qZc qZY qZW qZk qvm qQy
end
end Go.Fw
namespace Go.Fw
open Go
abbrev Hs(M:Mem):List (Nat×Obj)→Prop
 | []=>True
 | (b,o)::r=>M b=some o∧Hs M r
theorem Hs.mem{M:Mem}:∀ {G:List (Nat×Obj)},Hs M G→∀ p∈G,M p.1=some p.2
 | (b,o)::r,h,p,hp=>by
  rcases List.mem_cons.1 hp with rfl | hp
  ·exact h.1
  ·exact Hs.mem h.2 p hp
theorem Hs.of{M:Mem}:∀ {G:List (Nat×Obj)},(∀ p∈G,M p.1=some p.2)→Hs M G
 | [],_=>trivial
 | (b,o)::r,h=>⟨h (b,o) (List.mem_cons_self ..),Hs.of λp hp=>h p (List.mem_cons_of_mem _ hp)⟩
structure Hp(m0 m:Mem)(S:List Nat)(G:List (Nat×Obj)):Prop where
 hs:Hs m G
 fr:Fr m0 m S
 nd:(G.map Prod.fst).Nodup
 nw:∀ p∈G,m0 p.1=none∧p.1∉S
 ex:∀ s∈S,m s≠none
section
variable {P:Program} {m0 m:Mem} {S:List Nat} {G:List (Nat×Obj)}
theorem Hp.refl(m:Mem)(S:List Nat)(h:∀ s∈S,m s≠none:=by simp):Hp m m S []:=⟨trivial,Fr.refl _ _,by simp,by simp,h⟩
theorem Hp.step(H:Hp m0 m S G){M:Mem}{T:List Nat}(f:Fr m M T)(hT:∀ b∈T,b∈S)(hx:∀ b∈T,M b≠none):Hp m0 M S G :=
 ⟨Hs.of λp hp=>f.get (H.hs.mem p hp) (λh=>(H.nw p hp).2 (hT _ h)),H.fr.trans f λx hx _=>hT x hx,H.nd,H.nw,λs hs=>by
  by_cases h:s∈T
  ·exact hx s h
  ·exact f.some (H.ex s hs) h⟩
theorem Hp.Tw(H:Hp m0 m S G){M:Mem}(f:Fr m M []):Hp m0 M S G:=H.step f (by simp) (by simp)
theorem Hp.fresh(H:Hp m0 m S G){b:Nat}(hb:m b=none):(m0 b=none∧b∉S)∧∀ p∈G,p.1≠b:=by
 have hS:b∉S:=λh=>H.ex b h hb
 refine ⟨⟨?_,hS⟩,λp hp e=>?_⟩
 ·cases h:m0 b with
  | none=>rfl
  | some o=>rw [H.fr.get h hS] at hb;cases hb
 ·have:=H.hs.mem p hp
  rw [e,hb] at this;cases this
theorem Hp.grow(H:Hp m0 m S G){b:Nat}{o:Obj}(hb:m b=none):Hp m0 (m.set b o) S ((b,o)::G):=by
 obtain ⟨h1,h2⟩:=H.fresh hb
 have f:Fr m (m.set b o) []:=Fr.new _ hb
 have H':=H.Tw f
 refine ⟨⟨Jq _ _,H'.hs⟩,H'.fr,?_,?_,H'.ex⟩
 ·simp only [List.map_cons,List.nodup_cons]
  refine ⟨λhm=>?_,H.nd⟩
  obtain ⟨p,hp,e⟩:=List.mem_map.1 hm
  exact h2 p hp e
 ·intro p hp
  rcases List.mem_cons.1 hp with rfl | hp
  ·exact h1
  ·exact H.nw p hp
theorem Hp.wrS(H:Hp m0 m S G){b:Nat}(x:Obj)(hS:b∈S):Hp m0 (m.set b x) S G :=
 H.step (T:=[b]) (Fr.set (by simp)) (by simpa using hS) (by simp [Mem.set])
theorem Hp.nw0{b:Nat}{o:Obj}(H:Hp m0 m S ((b,o)::G)):m0 b=none∧b∉S:=H.nw (b,o) (List.mem_cons_self ..)
theorem Hp.nw1{p:Nat×Obj}{b:Nat}{o:Obj}(H:Hp m0 m S (p::(b,o)::G)):m0 b=none∧b∉S:=H.nw (b,o) (List.mem_cons_of_mem _ (List.mem_cons_self ..))
theorem Hp.fU{p:Nat×Obj}(H:Hp m0 m S (p::G)):Hp m0 m S G :=
 ⟨H.hs.2,H.fr,(List.nodup_cons.1 H.nd).2,λq hq=>H.nw q (List.mem_cons_of_mem _ hq),H.ex⟩
theorem Hp.more(H:Hp m0 m S G){T:List Nat}(h:∀ s∈S,s∈T)(hx:∀ s∈T,m s≠none)(hg:∀ p∈G,p.1∉T):Hp m0 m T G:=⟨H.hs,H.fr.sub h,H.nd,λp hp=>⟨(H.nw p hp).1,hg p hp⟩,hx⟩
theorem Hp.at{i:Nat}{p:Nat×Obj}(H:Hp m0 m S G)(hi:G[i]?=some p):m p.1=some p.2:=H.hs.mem p (List.mem_of_getElem? hi)
theorem Hp.put(H:Hp m0 m S G){i:Nat}{b:Nat}{o x:Obj}(hi:G[i]?=some (b,o)):Hp m0 (m.set b x) S (G.set i (b,x))∧Fr m (m.set b x) [b]:=by
 have hin:=List.mem_of_getElem? hi
 have f:Fr m (m.set b x) [b]:=Fr.set (by simp)
 refine ⟨⟨Hs.of λp hp=>?_,H.fr.trans f ?_,?_,?_,λs hs=>?_⟩,f⟩
 ·rcases List.mem_or_eq_of_mem_set hp with h | rfl
  ·by_cases e:p.1=b
   ·-- the one of this block stands at i alone
    obtain ⟨j,hj⟩:=List.mem_iff_getElem?.1 hp
    rw [List.getElem?_set] at hj
    split at hj
    ·split at hj
     ·cases hj;exact Jq _ _
     ·cases hj
    ·rename_i hne
     exfalso
     have h1:(G.map Prod.fst)[j]?=some b:=by rw [List.getElem?_map,hj];simp [e]
     have h2:(G.map Prod.fst)[i]?=some b:=by rw [List.getElem?_map,hi];rfl
     have hlt:i < (G.map Prod.fst).length:=(List.getElem?_eq_some_iff.1 h2).1
     exact hne ((List.getElem?_inj hlt H.nd).1 (h2.trans h1.symm))
   ·rw [PH _ _ _ e];exact H.hs.mem p h
  ·exact Jq _ _
 ·intro y hy hy0
  simp only [List.mem_singleton] at hy;subst hy
  exact absurd (H.nw _ hin).1 hy0
 ·have:(G.set i (b,x)).map Prod.fst=G.map Prod.fst:=by
   rw [List.map_set]
   apply List.ext_getElem?
   intro j
   rw [List.getElem?_set]
   split
   ·rename_i e;subst e
    rw [List.getElem?_map,hi]
    simp only [Option.map_some]
    rw [if_pos]
    rw [List.length_map];exact (List.getElem?_eq_some_iff.1 hi).1
   ·rfl
  rw [this];exact H.nd
 ·intro p hp
  rcases List.mem_or_eq_of_mem_set hp with h | rfl
  ·exact H.nw p h
  ·exact H.nw (b,o) hin
 ·by_cases e:s=b
  ·subst e;rw [Jq];exact Option.some_ne_none _
  ·rw [PH _ _ _ e];exact H.ex s hs
theorem zh{o:Obj}{J:Nat→Mem→Prop}{l:Lk J}{l':Lk m}(H:Hp m0 m S G)(k:∀ b M,m b=none→Fr m M []→Hp m0 M S ((b,o)::G)→J b M):NZ m o J l l' :=
 λb hb=>k b _ hb (Fr.new _ hb) (H.grow hb)
theorem qkl{b:Nat}{x o:Obj}{J:Mem→Prop}{l:Lk J}{l':Lk m}(i:Nat)(H:Hp m0 m S G)(hi:G[i]?=some (b,o))(k:∀ M,Fr m M [b]→Hp m0 M S (G.set i (b,x))→J M):wrO m b x J l l' :=
 k _ (H.put hi).2 (H.put hi).1
theorem wr0{b:Nat}{x o:Obj}{J:Mem→Prop}{l:Lk J}{l':Lk m}(H:Hp m0 m S ((b,o)::G))(k:∀ M,Fr m M [b]→Hp m0 M S ((b,x)::G)→J M):wrO m b x J l l':=qkl 0 H rfl k
theorem wr1{b:Nat}{p1:Nat×Obj}{x o:Obj}{J:Mem→Prop}{l:Lk J}{l':Lk m}(H:Hp m0 m S (p1::(b,o)::G))(k:∀ M,Fr m M [b]→Hp m0 M S (p1::(b,x)::G)→J M):wrO m b x J l l':=qkl 1 H rfl k
theorem wr2{b:Nat}{p1 p2:Nat×Obj}{x o:Obj}{J:Mem→Prop}{l:Lk J}{l':Lk m}(H:Hp m0 m S (p1::p2::(b,o)::G))(k:∀ M,Fr m M [b]→Hp m0 M S (p1::p2::(b,x)::G)→J M):wrO m b x J l l':=qkl 2 H rfl k
theorem wr3{b:Nat}{p1 p2 p3:Nat×Obj}{x o:Obj}{J:Mem→Prop}{l:Lk J}{l':Lk m}(H:Hp m0 m S (p1::p2::p3::(b,o)::G))(k:∀ M,Fr m M [b]→Hp m0 M S (p1::p2::p3::(b,x)::G)→J M):wrO m b x J l l':=qkl 3 H rfl k
theorem st_H{b off:Nat}{c vs:List Value}{T:TypeId}{J:Mem→Prop}{l:Lk J}{l':Lk m}(i:Nat)(H:Hp m0 m S G)(hi:G[i]?=some (b,.cells c.toArray T (0,0)))(hl:off+vs.length≤c.length)(h1:vs.all Value.oneCell'=true)(k:∀ M,Fr m M [b]→Hp m0 M S (G.set i (b,.cells (c.take off++vs++c.drop (off+vs.length)).toArray T (0,0)))→J M):stQ m ⟨b,off,none⟩ 0 vs J l l':=by
 have h:=Kq (t:=T) (b:=b) (o:=off) vs 0 m c (H.at hi) (by simpa using hl) (λv hv=>List.all_eq_true.1 h1 v hv)
 refine ⟨_,h,k _ (H.put hi).2 ?_⟩
 have:=(H.put (x:=.cells (c.take off++vs++c.drop (off+vs.length)).toArray T (0,0)) hi).1
 simpa using this
theorem st0{b off:Nat}{c vs:List Value}{T:TypeId}{J:Mem→Prop}{l:Lk J}{l':Lk m}(H:Hp m0 m S ((b,.cells c.toArray T (0,0))::G))(hl:off+vs.length≤c.length)(h1:vs.all Value.oneCell'=true)(k:∀ M,Fr m M [b]→Hp m0 M S ((b,.cells (c.take off++vs++c.drop (off+vs.length)).toArray T (0,0))::G)→J M):stQ m ⟨b,off,none⟩ 0 vs J l l':=st_H 0 H rfl hl h1 k
theorem st1{b off:Nat}{p1:Nat×Obj}{c vs:List Value}{T:TypeId}{J:Mem→Prop}{l:Lk J}{l':Lk m}(H:Hp m0 m S (p1::(b,.cells c.toArray T (0,0))::G))(hl:off+vs.length≤c.length)(h1:vs.all Value.oneCell'=true)(k:∀ M,Fr m M [b]→Hp m0 M S (p1::(b,.cells (c.take off++vs++c.drop (off+vs.length)).toArray T (0,0))::G)→J M):stQ m ⟨b,off,none⟩ 0 vs J l l':=st_H 1 H rfl hl h1 k
theorem JG{b:Nat}{c vs:List Value}{T:TypeId}{J:Mem→Prop}{l:Lk J}{l':Lk m}(H:Hp m0 m S ((b,.cells c.toArray T (0,0))::G))(hl:vs.length=c.length)(h1:vs.all Value.oneCell'=true)(k:∀ M,Fr m M [b]→Hp m0 M S ((b,.cells vs.toArray T (0,0))::G)→J M):stQ m ⟨b,0,none⟩ 0 vs J l l' :=
 st0 H (by omega) h1 λM f H'=>k M f (by
  have:List.drop (0+vs.length) c=[]:=List.drop_eq_nil_iff.2 (by omega)
  rw [this] at H';simpa using H')
theorem XU{b:Nat}{p1:Nat×Obj}{c vs:List Value}{T:TypeId}{J:Mem→Prop}{l:Lk J}{l':Lk m}(H:Hp m0 m S (p1::(b,.cells c.toArray T (0,0))::G))(hl:vs.length=c.length)(h1:vs.all Value.oneCell'=true)(k:∀ M,Fr m M [b]→Hp m0 M S (p1::(b,.cells vs.toArray T (0,0))::G)→J M):stQ m ⟨b,0,none⟩ 0 vs J l l' :=
 st1 H (by omega) h1 λM f H'=>k M f (by
  have:List.drop (0+vs.length) c=[]:=List.drop_eq_nil_iff.2 (by omega)
  rw [this] at H';simpa using H')
theorem zR{f:Nat}{args:List Value}{V:Value}{K:Value→Mem→Prop}{l:Lk K}(H:Hp m0 m S G)(h:MC P f args m λv M=>v=V∧Fr m M [])(k:∀ M,Fr m M []→Hp m0 M S G→K V M):VX P f args m K l :=
 jL h λv M ⟨e,g⟩=>by subst e;exact k M g (H.Tw g)
theorem wrS{b:Nat}{x:Obj}{J:Mem→Prop}{l:Lk J}{l':Lk m}(H:Hp m0 m S G)(hS:b∈S)(k:∀ M,M b=some x→Fr m M [b]→Hp m0 M S G→J M):wrO m b x J l l' :=
 k _ (Jq _ _) (Fr.set (by simp)) (H.wrS x hS)
def vlQ(E:Env)(m:Mem)(rvs:List RV)(acc:List Value)(R:Value→Mem→Prop)(_:Lk R):Prop:=∃ vs,Qh E m rvs=some vs∧R (WZ (acc++vs)) m
theorem qks{E:Env}(acc:List Value)(R:Value→Mem→Prop)(l:Lk R):vlQ E m [] acc R l=post R (WZ acc) m ⟨⟩:=by simp [vlQ,Qh,post]
theorem qzK{E:Env}(t:Nat)(r:List RV)(acc:List Value)(R:Value→Mem→Prop)(l:Lk R):vlQ E m (.qq t::r) acc R l=vlQ E m r (acc++[E.get t]) R ⟨⟩:=by
 apply propext
 simp only [vlQ,Qh,RV.val,Option.bind_some]
 constructor
 ·rintro ⟨vs,h,hr⟩
  obtain ⟨u,hu,rfl⟩:=Option.map_eq_some_iff.1 h
  exact ⟨u,hu,by simpa using hr⟩
 ·rintro ⟨vs,h,hr⟩
  exact ⟨E.get t::vs,by rw [h];rfl,by simpa using hr⟩
theorem Ug{E:Env}(t n:Nat)(r:List RV)(acc:List Value)(R:Value→Mem→Prop)(l:Lk R):vlQ E m (.cells t n::r) acc R l=bO (rd (.lda n) [E.get t] m) (λv=>vlQ E m r (acc++[v]) R ⟨⟩) ⟨⟩:=by
 apply propext
 simp only [vlQ,Qh,RV.val,bO,Uk]
 constructor
 ·rintro ⟨vs,h,hr⟩
  obtain ⟨v,hv,h⟩:=Option.bind_eq_some_iff.1 h
  obtain ⟨u,hu,rfl⟩:=Option.map_eq_some_iff.1 h
  exact ⟨v,hv,u,hu,by simpa using hr⟩
 ·rintro ⟨v,hv,vs,h,hr⟩
  exact ⟨v::vs,by rw [hv,Option.bind_some,h];rfl,by simpa using hr⟩
theorem qyz{E:Env}(a b c:RV)(rvs:List RV)(R:Value→Mem→Prop)(l:Lk R)(l':Lk E):bY (a::b::c::rvs) R E m l l'=rcQ (jb E ((a::b::c::rvs).map RV.jI)=true) (vlQ E m (a::b::c::rvs) [] R ⟨⟩) ⟨⟩:=rfl
theorem qxu{E:Env}(t n:Nat)(c:RV)(R:Value→Mem→Prop)(l:Lk R)(l':Lk E):bY [.cells t n,c] R E m l l'=rcQ (jb E ([.cells t n,c].map RV.jI)=true) (vlQ E m [.cells t n,c] [] R ⟨⟩) ⟨⟩:=rfl
theorem qxt{E:Env}(t n:Nat)(c:Nat)(R:Value→Mem→Prop)(l:Lk R)(l':Lk E):bY [.qq c,.cells t n] R E m l l'=rcQ (jb E ([.qq c,.cells t n].map RV.jI)=true) (vlQ E m [.qq c,.cells t n] [] R ⟨⟩) ⟨⟩:=rfl
theorem Ms(t:Nat):(RV.qq t).jI=t:=rfl
theorem HH(t n:Nat):(RV.cells t n).jI=t:=rfl
theorem qkH(v:Value):WZ [v]=v:=rfl
theorem qkG(a b:Value)(r:List Value):WZ (a::b::r)=.tuple (a::b::r).toArray:=rfl
theorem ML{b o n:Nat}(h:0 < n):rd (.lda n) [.pointer (some ⟨b,o,none⟩)] m=YJ (m b) o n:=by
 rw [Rx]
 cases hb:m b with
 | none=>cases n with
  | zero=>omega
  | succ n=>simp [jD,cN,xH,hb,cellAt,YJ]
 | some x=>cases x with
  | cells c T fr =>
   simp only [YJ]
   obtain ⟨c⟩:=c
   split
   ·rename_i hle
    rw [Ky (l:=c) hb n 0 o (by simpa using hle)]
    simp
   ·rename_i hle
    have:∀ n i,¬ (o+i+n≤c.length)→jD m ⟨b,o,none⟩ i n=none∨n=0:=by
     intro n
     induction n with
     | zero=>intro i _;exact .inr rfl
     | succ n ih =>
      intro i hi
      left
      rw [jD,xH,cN,hb,JE]
      by_cases hlt:o+i < c.length
      ·simp only [List.getElem?_toArray,List.getElem?_eq_getElem hlt,Option.bind_some]
       rcases ih (i+1) (by omega) with h1 | h1
       ·rw [h1];rfl
       ·omega
      ·simp [Nat.le_of_not_lt hlt]
    rcases this n 0 (by simpa using hle) with h1 | h1
    ·rw [h1];rfl
    ·omega
  | _=>cases n with
   | zero=>omega
   | succ n=>simp [jD,cN,xH,hb,cellAt,YJ]
theorem qwV{l:List Value}{T:TypeId}{fr:Nat×Nat}{i n:Nat}:YJ (some (.cells l.toArray T fr)) i n=if i+n≤l.length then some (.agg ((l.drop i).take n).toArray) else none:=by
 simp only [YJ,List.size_toArray]
theorem qqO(x:Array Value):(Value.agg x).cells=x:=rfl
theorem US(a b:Value):rd .pick [.bool true,a,b] m=some a:=rfl
theorem UT(a b:Value):rd .pick [.bool false,a,b] m=some b:=rfl
theorem Hx(a b:Int)(ks:List LK)(xs ys:List Value):qm (.i .i64::ks) (.int .i64 a::xs) (.int .i64 b::ys)=(qm ks xs ys).map λr=>decide (a=b) && r:=by
 rw [jo,Hk,Option.bind_some]
theorem gQ_nt{b:Bool}{y n:Prop}{l:Lk y}{l':Lk n}:gQ (some (!b)) true y n l l'=gQ (some b) false y n l l':=by cases b<;>simp [gQ]
theorem gQ_nf{b:Bool}{y n:Prop}{l:Lk y}{l':Lk n}:gQ (some (!b)) false y n l l'=gQ (some b) true y n l l':=by cases b<;>simp [gQ]
theorem qqI{b:Bool}{y n:Prop}{l:Lk y}{l':Lk n}:bU (!b) y n l l'=bU b n y l' l:=by cases b<;>simp [bU,bP]
theorem qqB{α:Type}(a b:α)[Decidable (a=b)][Decidable (a≠b)]:decide (a≠b)=!decide (a=b):=by by_cases h:a=b<;>simp [h]
attribute [go_sem] gQ_nt gQ_nf qqI qqB Bool.not_not List.toList_toArray
attribute [go_sem] qks qzK Ug qyz qxu qxt Ms HH qkH qkG ML qwV Nat.le_refl qqO US UT
attribute [go_sem] List.map_cons List.map_nil List.cons_append List.nil_append List.append_nil List.size_toArray List.length_append List.length_nil Bool.not_true Bool.not_false Bool.false_eq_true decide_true decide_false not_true not_false_eq_true if_true if_false Bool.or_false Bool.or_true Bool.true_or Bool.false_or Bool.and_false Bool.false_and
theorem Fr.less{a b:Mem}{S T:List Nat}(h:Fr a b S)(hs:∀ x∈S,a x≠none→x∈T):Fr a b T:=λx hx hT=>h x hx (λhS=>hT (hs x hS hx))
theorem qxb{m m':Mem}(f:Fr m m' []){b:Nat}(h:m' b=none):m b=none:=by
 cases hb:m b with
 | none=>rfl
 | some o=>rw [f.xJ hb] at h;cases h
theorem qyE{α:Type}[DecidableEq α]{enc:α→Value}{r:Nat}{l:List (α×Value)}{K:Value→Mem→Prop}{lk:Lk K}(H:Hp m0 m S G)(h:VW enc m r l)(k:∀ it N,m it=none→xo enc N it r l []→Fr m N []→Hp m0 N (it::S) G→m0 it=none→it∉S→it≠r→K (.pointer (some ⟨it,0,none⟩)) N):xsP P .rng [.map (some r)] m K lk:=by
 refine AP h λit N hit hI f=>?_
 obtain ⟨⟨h1,h2⟩,h3⟩:=H.fresh hit
 refine k it N hit hI f ((H.Tw f).more (λs hs=>List.mem_cons_of_mem _ hs) ?_ ?_) h1 h2 (by rintro rfl;exact h.there hit)
 ·intro s hs
  rcases List.mem_cons.1 hs with rfl | hs
  ·exact hI.there
  ·exact (H.Tw f).ex s hs
 ·intro p hp hm
  rcases List.mem_cons.1 hm with e | hm
  ·exact h3 p hp e
  ·exact (H.nw p hp).2 hm
theorem qyI{α:Type}[DecidableEq α]{ag:Bool}{ks:List LK}{enc:α→Value}(KE:XI ag ks enc){b r:Nat}{l:List (α×Value)}{done:List α}{K:Value→Mem→Prop}{lk:Lk K}(h:xo enc m b r l done)(H:Hp m0 m S G)(hS:b∈S)(hend:(zz l).Perm done→K (.tuple #[.bool false]) m)(hnext:∀ k v M,(k,v)∈l→k∉done→(done++[k]).length≤l.length→xo enc M b r l (done++[k])→rd .ent [.pointer (some ⟨b,0,none⟩)] M=some (.tuple #[enc k,v])→Fr m M [b]→Hp m0 M S G→K (.tuple #[.bool true,enc k,v]) M) :
  xsP P .nxt [.pointer (some ⟨b,0,none⟩)] m K lk:=by
 refine Bj KE h hend λk v M hkv hk hI hent f hn=>hnext k v M hkv hk ?_ hI hent f (H.step f (by simpa using hS) (by simpa using hI.there))
 obtain ⟨es,c,seen,_,hh,_,hd,hsub,_⟩:=hI
 have:=hd.length_le_of_subset hsub
 simpa [zz] using this
end
end Go.Fw
namespace Go.Fw
open Go
instance:DecidableEq ByteArray:=λa b=>decidable_of_iff (a.data=b.data) ⟨λh=>by cases a;cases b;simp_all,λh=>by rw [h]⟩
theorem Bk(a b:ByteArray):le1 .s (.string a) (.string b)=some (decide (a=b)):=by
 rw [Tn]
 congr 1
 rw [Bool.eq_iff_iff]
 simp only [beq_iff_eq,decide_eq_true_eq]
 exact ⟨λh=>by cases a;cases b;simp at h;rw [h],λh=>by rw [h]⟩
attribute [-go_sem] Tn
attribute [go_sem] Bk
theorem Uv(a b:ByteArray):(a.data.toList == b.data.toList)=decide (a=b):=by
 have:=Bk a b;rw [Tn] at this;exact Option.some.inj this
theorem Rj{m:Mem}(a b:ByteArray):rd (.str .eql) [.string a,.string b] m=some (.bool (decide (a=b))):=by rw [← Uv];rfl
theorem Rz{m:Mem}(a b:ByteArray):rd (.str .neq) [.string a,.string b] m=some (.bool (!decide (a=b))):=by rw [← Uv];rfl
attribute [go_sem] Rj Rz
theorem qZZ{m:Mem}(len size:Nat)(cs:Array Value)(k:IntKind)(i:Int)(h:0≤i∧i < len):rd (.idx len size) [.agg cs,.int k i] m=cs[i.toNat*size]?:=by
 show (if _ then _ else _)=_;rw [if_pos h]
attribute [go_sem] qZZ
def pc(p:Int×Int):List Value:=[.int .i64 p.1,.int .i64 p.2]
abbrev pv(p:Int×Int):Value:=.agg (pc p).toArray
theorem Cc(p:Int×Int):(pc p).length=2:=rfl
theorem pc_0(p:Int×Int):(pc p)[0]?=some (.int .i64 p.1):=rfl
theorem pc_1(p:Int×Int):(pc p)[1]?=some (.int .i64 p.2):=rfl
theorem pc_s0(p:Int×Int)(x:Int):(pc p).set 0 (.int .i64 x)=pc (x,p.2):=rfl
theorem pc_s1(p:Int×Int)(x:Int):(pc p).set 1 (.int .i64 x)=pc (p.1,x):=rfl
theorem pc_fa(a b:Int):Value.agg (List.toArray [Value.int .i64 a,Value.int .i64 b])=.agg (pc (a,b)).toArray:=rfl
theorem pc_fl(a b:Int)(ps:List (Nat×Nat))(vs:List Value):lay [Value.int .i64 a,Value.int .i64 b] ps vs=lay (pc (a,b)) ps vs:=rfl
theorem pc_fc(a b:Int)(t:TypeId)(fr:Nat×Nat):Obj.cells (List.toArray [Value.int .i64 a,Value.int .i64 b]) t fr=.cells (pc (a,b)).toArray t fr:=rfl
attribute [go_sem ↓] pc_fa pc_fl pc_fc
theorem qvN(p:Int×Int):(pc p).take 2=pc p:=rfl
theorem qvP(p:Int×Int)(a b:Int):lay (pc p) [(0,1),(1,1)] [.int .i64 a,.int .i64 b]=some (pc (a,b)):=rfl
theorem qvS(p:Int×Int)(a:Int):lay (pc p) [(0,1)] [.int .i64 a]=some (pc (a,p.2)):=rfl
theorem qvR(p:Int×Int)(a:Int):lay (pc p) [(1,1)] [.int .i64 a]=some (pc (p.1,a)):=rfl
theorem qvO(p q:Int×Int):lay (pc p) [(0,2)] [.agg (pc q).toArray]=some (pc q):=rfl
attribute [go_sem] qvO
theorem GI(p q:Int×Int):qm [.i .i64,.i .i64] (pc p) (pc q)=some (decide (p=q)):=by
 simp only [pc,jo,Hk,QU,Option.bind_some,Option.map_some,Bool.and_true]
 congr 1;rw [Bool.eq_iff_iff];simp [Prod.ext_iff]
theorem rD(p:Int×Int):(pc p).all Value.oneCell'=true:=rfl
structure Cmd where
 kind:Int
 client:Int
 seq:Int
 key:ByteArray
 fin:ByteArray
 old:ByteArray
 val:ByteArray
 deriving DecidableEq
abbrev noB:ByteArray:=⟨#[]⟩
abbrev Cmd.zero:Cmd:=⟨0,0,0,noB,noB,noB,noB⟩
def Cmd.cs(c:Cmd):List Value:=[.int .i64 c.kind,.int .i64 c.client,.int .i64 c.seq,.string c.key,.string c.fin,.string c.old,.string c.val]
abbrev Cmd.v(c:Cmd):Value:=.agg c.cs.toArray
theorem Cmd.len(c:Cmd):c.cs.length=7:=rfl
theorem Cmd.g0(c:Cmd):c.cs[0]?=some (.int .i64 c.kind):=rfl
theorem Cmd.g1(c:Cmd):c.cs[1]?=some (.int .i64 c.client):=rfl
theorem Cmd.g2(c:Cmd):c.cs[2]?=some (.int .i64 c.seq):=rfl
theorem Cmd.g3(c:Cmd):c.cs[3]?=some (.string c.key):=rfl
theorem Cmd.g4(c:Cmd):c.cs[4]?=some (.string c.fin):=rfl
theorem Cmd.g5(c:Cmd):c.cs[5]?=some (.string c.old):=rfl
theorem Cmd.g6(c:Cmd):c.cs[6]?=some (.string c.val):=rfl
theorem Cmd.s0(c:Cmd)(x:Int):c.cs.set 0 (.int .i64 x)=({ c with kind:=x }:Cmd).cs:=rfl
theorem Cmd.s1(c:Cmd)(x:Int):c.cs.set 1 (.int .i64 x)=({ c with client:=x }:Cmd).cs:=rfl
theorem Cmd.s2(c:Cmd)(x:Int):c.cs.set 2 (.int .i64 x)=({ c with seq:=x }:Cmd).cs:=rfl
theorem Cmd.s3(c:Cmd)(x:ByteArray):c.cs.set 3 (.string x)=({ c with key:=x }:Cmd).cs:=rfl
theorem Cmd.s4(c:Cmd)(x:ByteArray):c.cs.set 4 (.string x)=({ c with fin:=x }:Cmd).cs:=rfl
theorem Cmd.s5(c:Cmd)(x:ByteArray):c.cs.set 5 (.string x)=({ c with old:=x }:Cmd).cs:=rfl
theorem Cmd.s6(c:Cmd)(x:ByteArray):c.cs.set 6 (.string x)=({ c with val:=x }:Cmd).cs:=rfl
theorem Cmd.all(c:Cmd):c.cs.take 7=c.cs:=rfl
theorem qXw(a b d:Int)(w x y z:ByteArray):Value.agg (List.toArray [Value.int .i64 a,.int .i64 b,.int .i64 d,.string w,.string x,.string y,.string z])=.agg ((Cmd.mk a b d w x y z).cs).toArray:=rfl
theorem qXk(a b d:Int)(w x y z:ByteArray)(ps:List (Nat×Nat))(vs:List Value):lay [Value.int .i64 a,.int .i64 b,.int .i64 d,.string w,.string x,.string y,.string z] ps vs=lay ((Cmd.mk a b d w x y z).cs) ps vs:=rfl
theorem qXv(a b d:Int)(w x y z:ByteArray)(t:TypeId)(fr:Nat×Nat):Obj.cells (List.toArray [Value.int .i64 a,.int .i64 b,.int .i64 d,.string w,.string x,.string y,.string z]) t fr=.cells ((Cmd.mk a b d w x y z).cs).toArray t fr:=rfl
attribute [go_sem ↓] qXw qXk qXv
theorem Cmd.one(c:Cmd):c.cs.all Value.oneCell'=true:=rfl
theorem Cmd.eq(c d:Cmd):qm [.i .i64,.i .i64,.i .i64,.s,.s,.s,.s] c.cs d.cs=some (decide (c=d)):=by
 simp only [Cmd.cs,jo,Hk,Bk,QU,Option.bind_some,Option.map_some,Bool.and_true]
 congr 1;rw [Bool.eq_iff_iff];cases c;cases d;simp [and_assoc]
theorem Cmd.qxw(c:Cmd)(a:Int):lay c.cs [(0,1)] [.int .i64 a]=some ({ c with kind:=a }:Cmd).cs:=rfl
theorem Cmd.lay4(c:Cmd)(a b d:Int)(k:ByteArray):lay c.cs [(0,1),(1,1),(2,1),(3,1)] [.int .i64 a,.int .i64 b,.int .i64 d,.string k]=some (Cmd.mk a b d k c.fin c.old c.val).cs:=rfl
theorem Cmd.Wg(c d:Cmd):lay c.cs [(0,7)] [.agg d.cs.toArray]=some d.cs:=rfl
attribute [go_sem] Cmd.Wg
theorem Cmd.vO(c:Cmd):lay c.cs [] []=some c.cs:=rfl
abbrev Dp:=Fin 7→Int
instance:DecidableEq (Fin 7→Int):=λa b=>decidable_of_iff (∀ i,a i=b i) ⟨funext,λh i=>by rw [h]⟩
def dv(d:Dp):List Value:=[.int .i64 (d 0),.int .i64 (d 1),.int .i64 (d 2),.int .i64 (d 3),.int .i64 (d 4),.int .i64 (d 5),.int .i64 (d 6)]
abbrev Dp.v(d:Dp):Value:=.agg (dv d).toArray
abbrev Dp.zero:Dp:=λ_=>0
def Dp.up(d:Dp)(k:Nat)(x:Int):Dp:=λi=>if i.val=k then x else d i
theorem qJK(d:Dp):(dv d).length=7:=rfl
def Dp.g(d:Dp)(k:Nat):Int:=if h:k < 7 then d ⟨k,h⟩ else 0
theorem Dp.g_lt(d:Dp){k:Nat}(h:k < 7):d.g k=d ⟨k,h⟩:=by simp [Dp.g,h]
theorem Dp.qxa(d:Dp)(i:Fin 7):d i=d.g i.val:=by simp [Dp.g]
theorem Dp.fT{d e:Dp}(h:∀ k,k < 7→d.g k=e.g k):d=e:=funext λi=>(d.qxa i).trans ((h i.val i.isLt).trans (e.qxa i).symm)
theorem Dp.dg(d:Dp)(k j:Nat)(x:Int):(Dp.up d k x).g j=if j=k∧j < 7 then x else d.g j:=by
 unfold Dp.g Dp.up
 by_cases h:j < 7<;>simp [h]
theorem Lw(d:Dp)(k:Nat)(h:k < 7):(dv d)[k]?=some (.int .i64 (d.g k)):=by
 match k,h with
 | 0,_ | 1,_ | 2,_ | 3,_ | 4,_ | 5,_ | 6,_=>rfl
theorem qxl(d:Dp)(k:Nat)(x:Int)(h:k < 7):(dv d).set k (.int .i64 x)=dv (Dp.up d k x):=by
 match k,h with
 | 0,_ | 1,_ | 2,_ | 3,_ | 4,_ | 5,_ | 6,_=>rfl
theorem qJV(d:Dp):(dv d).take 7=dv d:=rfl
theorem qJX(d:Dp):(dv d).all Value.oneCell'=true:=rfl
theorem dv_fa:Value.agg (List.toArray [Value.int .i64 0,.int .i64 0,.int .i64 0,.int .i64 0,.int .i64 0,.int .i64 0,.int .i64 0])=.agg (dv Dp.zero).toArray:=rfl
theorem dv_fl(ps:List (Nat×Nat))(vs:List Value):lay [Value.int .i64 0,.int .i64 0,.int .i64 0,.int .i64 0,.int .i64 0,.int .i64 0,.int .i64 0] ps vs=lay (dv Dp.zero) ps vs:=rfl
theorem dv_fc(t:TypeId)(fr:Nat×Nat):Obj.cells (List.toArray [Value.int .i64 0,.int .i64 0,.int .i64 0,.int .i64 0,.int .i64 0,.int .i64 0,.int .i64 0]) t fr=.cells (dv Dp.zero).toArray t fr:=rfl
attribute [go_sem ↓] dv_fa dv_fl dv_fc
theorem qxp(d e:Dp):qm [.i .i64,.i .i64,.i .i64,.i .i64,.i .i64,.i .i64,.i .i64] (dv d) (dv e)=some (decide (d=e)):=by
 simp only [dv,jo,Hk,QU,Option.bind_some,Option.map_some,Bool.and_true]
 congr 1;rw [Bool.eq_iff_iff]
 simp only [Bool.and_eq_true,decide_eq_true_eq]
 constructor
 ·rintro ⟨h0,h1,h2,h3,h4,h5,h6⟩
  funext i
  match i with
  | 0=>exact h0 | 1=>exact h1 | 2=>exact h2 | 3=>exact h3 | 4=>exact h4 | 5=>exact h5 | 6=>exact h6
 ·rintro rfl;simp
theorem qxo(c:Dp):lay (dv c) [] []=some (dv c):=rfl
theorem qxn(c:Dp)(x:Int):lay (dv c) [(0,1)] [.int .i64 x]=some (dv (Dp.up c 0 x)):=rfl
theorem qxm(c:Dp)(x y:Int):lay (dv c) [(0,1),(1,1)] [.int .i64 x,.int .i64 y]=some (dv (Dp.up (Dp.up c 0 x) 1 y)):=rfl
theorem qqG(x:Value)(l:List Value)(k:Nat):(x::l)[1+k]?=l[k]?:=by rw [Nat.add_comm];rfl
theorem qqF(x:Value)(l:List Value)(k:Nat)(v:Value):(x::l).set (1+k) v=x::l.set k v:=by rw [Nat.add_comm];rfl
attribute [go_sem] qqG qqF
structure Att where
 seq:Int
 deps:Dp
instance:DecidableEq Att:=λa b=>decidable_of_iff (a.seq=b.seq∧a.deps=b.deps) ⟨λh=>by cases a;cases b;simp_all,λh=>by rw [h];exact ⟨rfl,rfl⟩⟩
abbrev Att.zero:Att:=⟨0,Dp.zero⟩
def Att.cs(a:Att):List Value:=.int .i64 a.seq::dv a.deps
abbrev Att.v(a:Att):Value:=.agg a.cs.toArray
theorem Att.len(a:Att):a.cs.length=8:=rfl
theorem Att.g0(a:Att):a.cs[0]?=some (.int .i64 a.seq):=rfl
theorem Att.g1(a:Att)(k:Nat)(h:k < 7):a.cs[1+k]?=some (.int .i64 (a.deps.g k)):=by
 rw [Nat.add_comm];exact Lw _ k h
theorem Att.s0(a:Att)(x:Int):a.cs.set 0 (.int .i64 x)=({ a with seq:=x }:Att).cs:=rfl
theorem Att.s1(a:Att)(k:Nat)(x:Int)(h:k < 7):a.cs.set (1+k) (.int .i64 x)=({ a with deps:=Dp.up a.deps k x }:Att).cs:=by
 rw [Nat.add_comm];show _::(dv a.deps).set k _=_;rw [qxl _ _ _ h];rfl
theorem Att.all(a:Att):a.cs.take 8=a.cs:=rfl
theorem Att.sub(a:Att):(a.cs.drop 1).take 7=dv a.deps:=rfl
theorem Att.put(a:Att)(d:Dp):a.cs.take 1++(dv d++a.cs.drop 8)=({ a with deps:=d }:Att).cs:=rfl
theorem qXK:Value.agg (List.toArray [Value.int .i64 0,.int .i64 0,.int .i64 0,.int .i64 0,.int .i64 0,.int .i64 0,.int .i64 0,.int .i64 0])=.agg (Att.zero.cs).toArray:=rfl
theorem qXJ(ps:List (Nat×Nat))(vs:List Value):lay [Value.int .i64 0,.int .i64 0,.int .i64 0,.int .i64 0,.int .i64 0,.int .i64 0,.int .i64 0,.int .i64 0] ps vs=lay (Att.zero.cs) ps vs:=rfl
theorem qXX(t:TypeId)(fr:Nat×Nat):Obj.cells (List.toArray [Value.int .i64 0,.int .i64 0,.int .i64 0,.int .i64 0,.int .i64 0,.int .i64 0,.int .i64 0,.int .i64 0]) t fr=.cells (Att.zero.cs).toArray t fr:=rfl
attribute [go_sem ↓] qXK qXJ qXX
theorem Att.one(a:Att):a.cs.all Value.oneCell'=true:=rfl
theorem Att.eq(a b:Att):qm [.i .i64,.i .i64,.i .i64,.i .i64,.i .i64,.i .i64,.i .i64,.i .i64] a.cs b.cs=some (decide (a=b)):=by
 rw [Att.cs,Att.cs,Hx,qxp,Option.map_some]
 congr 1;rw [Bool.eq_iff_iff];cases a;cases b;simp
theorem Att.Wg(c d:Att):lay c.cs [(0,8)] [.agg d.cs.toArray]=some d.cs:=rfl
attribute [go_sem] Att.Wg
theorem Att.vO(c:Att):lay c.cs [] []=some c.cs:=rfl
theorem Att.qxw(c:Att)(x:Int):lay c.cs [(0,1)] [.int .i64 x]=some ({ c with seq:=x }:Att).cs:=rfl
theorem Att.lay1(c:Att)(d:Dp):lay c.cs [(1,7)] [.agg (dv d).toArray]=some ({ c with deps:=d }:Att).cs:=rfl
theorem Att.qZH(c:Att)(x:Int)(d:Dp):lay c.cs [(0,1),(1,7)] [.int .i64 x,.agg (dv d).toArray]=some (Att.mk x d).cs:=rfl
structure Cel where
 st:Int
 pr:Int×Int
 vo:Int×Int
 cmd:Cmd
 att:Att
 same:Bool
 deriving DecidableEq
abbrev Cel.zero:Cel:=⟨0,(0,0),(0,0),Cmd.zero,Att.zero,false⟩
def Cel.cs(c:Cel):List Value:=.int .i64 c.st::(pc c.pr++(pc c.vo++(c.cmd.cs++(c.att.cs++[.bool c.same]))))
abbrev Cel.v(c:Cel):Value:=.agg c.cs.toArray
theorem Cel.len(c:Cel):c.cs.length=21:=rfl
theorem Cel.g0(c:Cel):c.cs[0]?=some (.int .i64 c.st):=rfl
theorem Cel.g1(c:Cel):c.cs[1]?=some (.int .i64 c.pr.1):=rfl
theorem Cel.g2(c:Cel):c.cs[2]?=some (.int .i64 c.pr.2):=rfl
theorem Cel.g3(c:Cel):c.cs[3]?=some (.int .i64 c.vo.1):=rfl
theorem Cel.g4(c:Cel):c.cs[4]?=some (.int .i64 c.vo.2):=rfl
theorem Cel.g5(c:Cel):c.cs[5]?=some (.int .i64 c.cmd.kind):=rfl
theorem Cel.g6(c:Cel):c.cs[6]?=some (.int .i64 c.cmd.client):=rfl
theorem Cel.g7(c:Cel):c.cs[7]?=some (.int .i64 c.cmd.seq):=rfl
theorem Cel.g8(c:Cel):c.cs[8]?=some (.string c.cmd.key):=rfl
theorem Cel.g9(c:Cel):c.cs[9]?=some (.string c.cmd.fin):=rfl
theorem Cel.g10(c:Cel):c.cs[10]?=some (.string c.cmd.old):=rfl
theorem Cel.g11(c:Cel):c.cs[11]?=some (.string c.cmd.val):=rfl
theorem Cel.g12(c:Cel):c.cs[12]?=some (.int .i64 c.att.seq):=rfl
theorem Cel.g20(c:Cel):c.cs[20]?=some (.bool c.same):=rfl
theorem Cel.all(c:Cel):c.cs.take 21=c.cs:=rfl
theorem Cel.qQE(c:Cel):(c.cs.drop 1).take 2=pc c.pr:=rfl
theorem Cel.HC(c:Cel):(c.cs.drop 3).take 2=pc c.vo:=rfl
theorem Cel.Qg(c:Cel):(c.cs.drop 5).take 7=c.cmd.cs:=rfl
theorem Cel.Ya(c:Cel):(c.cs.drop 12).take 8=c.att.cs:=rfl
theorem Cel.Bu(c:Cel):(c.cs.drop 13).take 7=dv c.att.deps:=rfl
theorem Cel.s0(c:Cel)(x:Int):c.cs.set 0 (.int .i64 x)=({ c with st:=x }:Cel).cs:=rfl
theorem Cel.s20(c:Cel)(x:Bool):c.cs.set 20 (.bool x)=({ c with same:=x }:Cel).cs:=rfl
theorem Cel.qZh(c:Cel)(p:Int×Int):c.cs.take 1++(pc p++c.cs.drop 3)=({ c with pr:=p }:Cel).cs:=rfl
theorem Cel.qZg(c:Cel)(p:Int×Int):c.cs.take 3++(pc p++c.cs.drop 5)=({ c with vo:=p }:Cel).cs:=rfl
theorem Cel.VS(c:Cel)(p:Cmd):c.cs.take 5++(p.cs++c.cs.drop 12)=({ c with cmd:=p }:Cel).cs:=rfl
theorem Cel.nN(c:Cel)(p:Att):c.cs.take 12++(p.cs++c.cs.drop 20)=({ c with att:=p }:Cel).cs:=rfl
theorem Cel.one(c:Cel):c.cs.all Value.oneCell'=true:=rfl
theorem qXZ:Value.agg (List.toArray [Value.int .i64 0,.int .i64 0,.int .i64 0,.int .i64 0,.int .i64 0,.int .i64 0,.int .i64 0,.int .i64 0,.string noB,.string noB,.string noB,.string noB,.int .i64 0,.int .i64 0,.int .i64 0,.int .i64 0,.int .i64 0,.int .i64 0,.int .i64 0,.int .i64 0,.bool false])=.agg (Cel.zero.cs).toArray:=rfl
theorem qXy(ps:List (Nat×Nat))(vs:List Value):lay [Value.int .i64 0,.int .i64 0,.int .i64 0,.int .i64 0,.int .i64 0,.int .i64 0,.int .i64 0,.int .i64 0,.string noB,.string noB,.string noB,.string noB,.int .i64 0,.int .i64 0,.int .i64 0,.int .i64 0,.int .i64 0,.int .i64 0,.int .i64 0,.int .i64 0,.bool false] ps vs=lay (Cel.zero.cs) ps vs:=rfl
theorem qXQ(t:TypeId)(fr:Nat×Nat):Obj.cells (List.toArray [Value.int .i64 0,.int .i64 0,.int .i64 0,.int .i64 0,.int .i64 0,.int .i64 0,.int .i64 0,.int .i64 0,.string noB,.string noB,.string noB,.string noB,.int .i64 0,.int .i64 0,.int .i64 0,.int .i64 0,.int .i64 0,.int .i64 0,.int .i64 0,.int .i64 0,.bool false]) t fr=.cells (Cel.zero.cs).toArray t fr:=rfl
attribute [go_sem ↓] qXZ qXy qXQ
theorem Cel.Wg(c d:Cel):lay c.cs [(0,21)] [.agg d.cs.toArray]=some d.cs:=rfl
attribute [go_sem] Cel.Wg
theorem Cel.vO(c:Cel):lay c.cs [] []=some c.cs:=rfl
theorem Cel.qxw(c:Cel)(x:Int):lay c.cs [(0,1)] [.int .i64 x]=some ({ c with st:=x }:Cel).cs:=rfl
theorem Cel.qZG(c:Cel)(p:Int×Int):lay c.cs [(1,2)] [.agg (pc p).toArray]=some ({ c with pr:=p }:Cel).cs:=rfl
theorem Xn:∀ (k1:List LK) {k2:List LK} {x1 y1 x2 y2:List Value} {r:Bool},qm k1 x1 y1=some r→qm (k1++k2) (x1++x2) (y1++y2)=(qm k2 x2 y2).map λs=>r && s
 | [],k2,[],[],x2,y2,r,h=>by
  simp only [qm,Option.some.injEq] at h;subst h
  simp
 | k::ks,k2,x::xs,y::ys,x2,y2,r,h=>by
  rw [jo] at h
  obtain ⟨b,hb,h⟩:=Option.bind_eq_some_iff.1 h
  obtain ⟨s,hs,rfl⟩:=Option.map_eq_some_iff.1 h
  rw [List.cons_append,List.cons_append,List.cons_append,jo,hb,Option.bind_some,Xn ks hs,Option.map_map]
  congr 1;funext q;simp [Bool.and_assoc]
 | [],_,[],_::_,_,_,_,h | [],_,_::_,[],_,_,_,h | [],_,_::_,_::_,_,_,_,h | _::_,_,[],[],_,_,_,h | _::_,_,[],_::_,_,_,_,h | _::_,_,_::_,[],_,_,_,h=>by simp [qm] at h
theorem Cel.eq(c d:Cel):qm [.i .i64,.i .i64,.i .i64,.i .i64,.i .i64,.i .i64,.i .i64,.i .i64,.s,.s,.s,.s,.i .i64,.i .i64,.i .i64,.i .i64,.i .i64,.i .i64,.i .i64,.i .i64,.b] c.cs d.cs=some (decide (c=d)):=by
 rw [Cel.cs,Cel.cs,Hx]
 have h5:qm [.b] [.bool c.same] [.bool d.same]=some (decide (c.same=d.same)):=by rw [jo,qyN];simp [QU]
 have h4:=Xn (k2:=[.b]) (x2:=[.bool c.same]) (y2:=[.bool d.same]) _ (Att.eq c.att d.att)
 rw [h5,Option.map_some] at h4
 have h3:=Xn (k2:=[.i .i64,.i .i64,.i .i64,.i .i64,.i .i64,.i .i64,.i .i64,.i .i64,.b]) (x2:=c.att.cs++[.bool c.same]) (y2:=d.att.cs++[.bool d.same]) _ (Cmd.eq c.cmd d.cmd)
 rw [show qm [.i .i64,.i .i64,.i .i64,.i .i64,.i .i64,.i .i64,.i .i64,.i .i64,.b] _ _=_ from h4,Option.map_some] at h3
 have h2:=Xn (k2:=[.i .i64,.i .i64,.i .i64,.s,.s,.s,.s,.i .i64,.i .i64,.i .i64,.i .i64,.i .i64,.i .i64,.i .i64,.i .i64,.b]) (x2:=c.cmd.cs++(c.att.cs++[.bool c.same])) (y2:=d.cmd.cs++(d.att.cs++[.bool d.same])) _ (GI c.vo d.vo)
 rw [show qm [.i .i64,.i .i64,.i .i64,.s,.s,.s,.s,.i .i64,.i .i64,.i .i64,.i .i64,.i .i64,.i .i64,.i .i64,.i .i64,.b] _ _=_ from h3,Option.map_some] at h2
 have h1:=Xn (k2:=[.i .i64,.i .i64,.i .i64,.i .i64,.i .i64,.s,.s,.s,.s,.i .i64,.i .i64,.i .i64,.i .i64,.i .i64,.i .i64,.i .i64,.i .i64,.b]) (x2:=pc c.vo++(c.cmd.cs++(c.att.cs++[.bool c.same]))) (y2:=pc d.vo++(d.cmd.cs++(d.att.cs++[.bool d.same]))) _ (GI c.pr d.pr)
 rw [show qm [.i .i64,.i .i64,.i .i64,.i .i64,.i .i64,.s,.s,.s,.s,.i .i64,.i .i64,.i .i64,.i .i64,.i .i64,.i .i64,.i .i64,.i .i64,.b] _ _=_ from h2,Option.map_some] at h1
 rw [show qm [.i .i64,.i .i64,.i .i64,.i .i64,.i .i64,.i .i64,.i .i64,.s,.s,.s,.s,.i .i64,.i .i64,.i .i64,.i .i64,.i .i64,.i .i64,.i .i64,.i .i64,.b] _ _=_ from h1,Option.map_some]
 congr 1;rw [Bool.eq_iff_iff];cases c;cases d;simp [and_assoc]
attribute [go_sem] Cc pc_0 pc_1 pc_s0 pc_s1 qvN qvP qvS qvR GI rD
attribute [go_sem] Cmd.len Cmd.g0 Cmd.g1 Cmd.g2 Cmd.g3 Cmd.g4 Cmd.g5 Cmd.g6 Cmd.s0 Cmd.s1 Cmd.s2 Cmd.s3 Cmd.s4 Cmd.s5 Cmd.s6 Cmd.all Cmd.one Cmd.eq Cmd.qxw Cmd.lay4 Cmd.vO
attribute [go_sem] qJK Lw qxl qJV qJX qxp qxo qxn qxm
attribute [go_sem] Att.len Att.g0 Att.g1 Att.s0 Att.s1 Att.all Att.sub Att.put Att.one Att.eq Att.vO Att.qxw Att.lay1 Att.qZH
attribute [go_sem] Cel.len Cel.g0 Cel.g1 Cel.g2 Cel.g3 Cel.g4 Cel.g5 Cel.g6 Cel.g7 Cel.g8 Cel.g9 Cel.g10 Cel.g11 Cel.g12 Cel.g20 Cel.all Cel.qQE Cel.HC Cel.Qg Cel.Ya Cel.Bu Cel.s0 Cel.s20 Cel.qZh Cel.qZg Cel.VS Cel.nN Cel.one Cel.eq Cel.vO Cel.qxw Cel.qZG
attribute [go_sem] List.append_assoc Nat.reduceAdd Nat.reduceSub Nat.reduceLeDiff
end Go.Fw
namespace Go.Fw
open Go
section
variable {α:Type} {k:Nat} {enc:α→List Value} {P:Program}
theorem xQ(hk:∀ x,(enc x).length=k):∀ l:List α,(l.flatMap enc).length=l.length*k
 | []=>by simp
 | x::r=>by rw [List.flatMap_cons,List.length_append,hk,xQ hk r,List.length_cons,Nat.add_mul];omega
theorem qxc(hk:∀ x,(enc x).length=k):∀ (l:List α) (i j:Nat) (hi:i < l.length),j < k→(l.flatMap enc)[i*k+j]?=(enc l[i])[j]?
 | x::r,0,j,hi,hj=>by
  rw [List.flatMap_cons,Nat.zero_mul,Nat.zero_add,List.getElem?_append_left (by rw [hk];exact hj)];rfl
 | x::r,i+1,j,hi,hj=>by
  have:=qxc hk r i j (by simpa using hi) hj
  rw [List.flatMap_cons,List.getElem?_append_right (by rw [hk,Nat.add_mul];omega),hk,Nat.add_mul,Nat.one_mul]
  rw [show i*k+k+j - k=i*k+j from by omega,this];rfl
def RdS(k:Nat)(enc:α→List Value)(m:Mem)(v:Value)(l:List α):Prop:=(∀ x,(enc x).length=k)∧∃ a c,v=.slice a l.length c∧l.length≤c∧Rd1 m a (l.flatMap enc)
theorem RdS.frame{m m':Mem}{v:Value}{l:List α}(h:RdS k enc m v l)(f:Fr m m' []):RdS k enc m' v l:=by
 obtain ⟨hk,a,c,e,hc,hr⟩:=h;exact ⟨hk,a,c,e,hc,hr.frame f⟩
theorem RdS.form{m:Mem}{v:Value}{l:List α}(h:RdS k enc m v l):∃ a c,v=.slice a l.length c:=by
 obtain ⟨_,a,c,e,_⟩:=h;exact ⟨a,c,e⟩
theorem IC{m:Mem}{b:Nat}:∀ (xs:List Value) (o i:Nat),(∀ j (hj:j < xs.length),cellAt (m b) (o+i+j)=some xs[j])→jD m ⟨b,o,none⟩ i xs.length=some xs
 | [],o,i,_=>by simp [jD]
 | x::r,o,i,h=>by
  have h0:=h 0 (by simp)
  simp only [Nat.add_zero,List.getElem_cons_zero] at h0
  rw [List.length_cons,jD,xH,cN,h0,Option.bind_some,IC r o (i+1) (λj hj=>by
   have:=h (j+1) (by simpa using hj)
   rw [show o+(i+1)+j=o+i+(j+1) from by omega,this];rfl)]
  rfl
theorem RdS.at{m:Mem}{a:Option Addr}{c i:Nat}{l:List α}(h:RdS k enc m (.slice a l.length c) l)(hi:i < l.length)(k0:0 < k) :
  ∃ b o,a=some ⟨b,o,none⟩∧rd (.lda k) [.pointer (some ⟨b,o+i*k,none⟩)] m=some (.agg (enc l[i]).toArray)∧∀ j x,(enc l[i])[j]?=some x→cellAt (m b) (o+i*k+j)=some x:=by
 obtain ⟨hk,a',c',e,_,hr⟩:=h
 cases e
 rcases hr with h | ⟨b,o,rfl,hc⟩
 ·have:=xQ hk l
  rw [h] at this
  have:=Nat.mul_pos (Nat.lt_of_le_of_lt (Nat.zero_le _) hi) k0
  simp at *;omega
 ·have hcell:∀ j x,(enc l[i])[j]?=some x→cellAt (m b) (o+i*k+j)=some x:=λj x hx=>by
   have hj:j < k:=by
    have:=(List.getElem?_eq_some_iff.1 hx).1;rwa [hk] at this
   rw [Nat.add_assoc]
   exact hc _ _ (by rw [qxc hk l i j hi hj];exact hx)
  refine ⟨b,o,rfl,?_,hcell⟩
  rw [Rx]
  have:=IC (m:=m) (b:=b) (enc l[i]) (o+i*k) 0 (λj hj=>by rw [Nat.add_zero];exact hcell j _ (List.getElem?_eq_getElem hj))
  rw [hk] at this
  rw [this];rfl
theorem RdS.el{m:Mem}{a:Option Addr}{c i:Nat}{l:List α}(h:RdS k enc m (.slice a l.length c) l)(hi:i < l.length)(k0:0 < k) :
  ∃ b o,(∀ (kd:IntKind) (M:Mem),rd (.ixs k) [.slice a l.length c,.int kd (i:Int)] M=some (.pointer (some ⟨b,o,none⟩)))∧rd (.lda k) [.pointer (some ⟨b,o,none⟩)] m=some (.agg (enc l[i]).toArray)∧∀ j x,(enc l[i])[j]?=some x→cellAt (m b) (o+j)=some x:=by
 obtain ⟨b,o,rfl,h1,h2⟩:=h.at hi k0
 refine ⟨b,o+i*k,λkd M=>?_,h1,h2⟩
 rw [qjg _ _ _ _ _ _ (by omega),Int.toNat_natCast,xH]
structure El(k:Nat)(enc:α→List Value)(m:Mem)(b o:Nat)(x:α):Prop where
 len:(enc x).length=k
 cell:∀ j v,(enc x)[j]?=some v→cellAt (m b) (o+j)=some v
theorem El.frame{m m':Mem}{b o:Nat}{x:α}(h:El k enc m b o x)(f:Fr m m' []):El k enc m' b o x:=⟨h.len,λj v hv=>f.cellAt (h.cell j v hv) (by simp)⟩
theorem El.ld{m:Mem}{b o:Nat}{x:α}(h:El k enc m b o x)(j:Nat)(hj:j < k):cellAt (m b) (o+j)=(enc x)[j]?:=by
 have hl:=h.len
 rw [List.getElem?_eq_getElem (by omega),h.cell j _ (List.getElem?_eq_getElem (by omega))]
theorem El.ld0{m:Mem}{b o:Nat}{x:α}(h:El k enc m b o x)(hj:0 < k):cellAt (m b) o=(enc x)[0]?:=h.ld 0 hj
theorem El.lda{m:Mem}{b o:Nat}{x:α}(h:El k enc m b o x)(j n:Nat)(h0:0 < n)(hj:j+n≤k):YJ (m b) (o+j) n=some (.agg ((((enc x).drop j).take n).toArray)):=by
 rw [← ML h0,Rx]
 have hl:=h.len
 have hlen:(((enc x).drop j).take n).length=n:=by simp;omega
 have:=IC (m:=m) (b:=b) (((enc x).drop j).take n) (o+j) 0 (λi hi=>by
  rw [Nat.add_zero,Nat.add_assoc,h.ld (j+i) (by omega),← List.getElem?_eq_getElem hi,List.getElem?_take,if_pos (by omega),List.getElem?_drop])
 rw [hlen] at this
 rw [this];rfl
theorem El.mD{m:Mem}{b o:Nat}{x:α}(h:El k enc m b o x)(n:Nat)(h0:0 < n)(hj:n≤k):YJ (m b) o n=some (.agg (((enc x).take n).toArray)):=by
 have:=h.lda 0 n h0 (by omega)
 simpa using this
abbrev IxAt(k:Nat)(v:Value)(i:Nat)(b o:Nat):Prop:=∀ (kd:IntKind) (M:Mem),rd (.ixs k) [v,.int kd (i:Int)] M=some (.pointer (some ⟨b,o,none⟩))
theorem RdS.elK{G:Prop}{m:Mem}{a:Option Addr}{c i:Nat}{l:List α}(h:RdS k enc m (.slice a l.length c) l)(hi:i < l.length)(k0:0 < k)(K:∀ b o x,l[i]?=some x→IxAt k (.slice a l.length c) i b o→El k enc m b o x→G):G:=by
 obtain ⟨b,o,h1,h2,h3⟩:=h.el hi k0
 exact K b o l[i] (List.getElem?_eq_getElem hi) h1 ⟨h.1 _,h3⟩
theorem Own.rds{m:Mem}{t:TypeId}{v:Value}{l:List α}(k0:0 < k)(hk:∀ x,(enc x).length=k)(h:Own m t k v l.length (l.flatMap enc)):RdS k enc m v l:=by
 refine ⟨hk,?_⟩
 rcases h.2 with ⟨rfl,h0⟩ | ⟨b,cap,tail,rfl,hb,hl⟩
 ·have:l=[]:=List.eq_nil_of_length_eq_zero h0
  subst this
  exact ⟨none,0,rfl,by simp,.inl rfl⟩
 ·refine ⟨some ⟨b,0,none⟩,cap,rfl,?_,.inr ⟨b,0,rfl,λi x hx=>?_⟩⟩
  ·rw [List.length_append,xQ hk] at hl
   exact Nat.le_of_mul_le_mul_right (by omega:l.length*k≤cap*k) (by omega)
  ·have:=(List.getElem?_eq_some_iff.1 hx).1
   rw [hb,JE]
   simp only [Nat.zero_add,List.getElem?_toArray]
   rw [List.getElem?_append_left this];exact hx
end
end Go.Fw
namespace Go.Fw
open Go
structure As where
 fp:List Nat
 wp:List Nat
 sub:∀ b∈wp,b∈fp
 p:Mem→Prop
 st:∀ {m m':Mem},p m→(∀ b∈fp,m' b=m b)→p m'
 th:∀ {m:Mem},p m→∀ b∈fp,m b≠none
def qw(b:Nat)(o:Obj):As where
 fp:=[b]
 wp:=[b]
 sub _ h:=h
 p m:=m b=some o
 st h e:=by rw [e _ (by simp)];exact h
 th h b' hb:=by simp at hb;subst hb;rw [h];exact Option.some_ne_none _
@[simp] theorem cellA_fp(b:Nat)(o:Obj):(qw b o).fp=[b]:=rfl
@[simp] theorem cellA_wp(b:Nat)(o:Obj):(qw b o).wp=[b]:=rfl
abbrev qjI:As where
 fp:=[]
 wp:=[]
 sub _ h:=h
 p _:=True
 st _ _:=trivial
 th _ b hb:=by cases hb
def JF(A B:As):Prop:=(∀ b∈A.wp,b∉B.fp)∧∀ b∈B.wp,b∉A.fp
theorem JF.symm{A B:As}(h:JF A B):JF B A:=⟨h.2,h.1⟩
abbrev vG(A B:As):As where
 fp:=A.fp++B.fp
 wp:=A.wp++B.wp
 sub b h:=(List.mem_append.1 h).elim (λh=>List.mem_append_left _ (A.sub b h)) (λh=>List.mem_append_right _ (B.sub b h))
 p m:=A.p m∧B.p m∧JF A B
 st h e:=⟨A.st h.1 λb hb=>e b (List.mem_append_left _ hb),B.st h.2.1 λb hb=>e b (List.mem_append_right _ hb),h.2.2⟩
 th h b hb:=(List.mem_append.1 hb).elim (A.th h.1 b) (B.th h.2.1 b)
theorem As.fr{A:As}{m m':Mem}{T:List Nat}(h:A.p m)(f:Fr m m' T)(hT:∀ b∈A.fp,b∉T):A.p m':=A.st h λb hb=>f b (A.th h b hb) (hT b hb)
theorem As.fr0{A:As}{m m':Mem}(h:A.p m)(f:Fr m m' []):A.p m':=A.fr h f λ_ _=>by simp
abbrev Hps(m:Mem):List As→Prop
 | []=>True
 | A::r=>A.p m∧Hps m r
theorem Hps.mem{m:Mem}:∀ {L:List As},Hps m L→∀ A∈L,A.p m
 | A::r,h,B,hB=>by
  rcases List.mem_cons.1 hB with rfl | hB
  ·exact h.1
  ·exact Hps.mem h.2 B hB
theorem Hps.of{m:Mem}:∀ {L:List As},(∀ A∈L,A.p m)→Hps m L
 | [],_=>trivial
 | A::r,h=>⟨h A (List.mem_cons_self ..),Hps.of λB hB=>h B (List.mem_cons_of_mem _ hB)⟩
structure Hq(m0 m:Mem)(S:List Nat)(L:List As):Prop where
 hs:Hps m L
 fr:Fr m0 m S
 dj:L.Pairwise JF
 nw:∀ A∈L,∀ b∈A.wp,m0 b=none∨b∈S
section
variable {P:Program} {m0 m M:Mem} {S:List Nat} {L:List As} {A A' B:As}
theorem Hq.refl(m:Mem)(S:List Nat):Hq m m S []:=⟨trivial,Fr.refl _ _,.nil,by simp⟩
theorem Hq.one(h:A.p m):Hq m m A.wp [A]:=⟨⟨h,trivial⟩,Fr.refl _ _,by simp,λB hB b hb=>by simp at hB;subst hB;exact .inr hb⟩
theorem Hq.new0(H:Hq m0 m S L){b:Nat}(hb:m b=none):m0 b=none∨b∈S:=by
 by_cases hS:b∈S
 ·exact .inr hS
 ·cases h0:m0 b with
  | none=>exact .inl rfl
  | some o=>rw [H.fr.get h0 hS] at hb;cases hb
theorem Hq.new1(H:Hq m0 m S L){b:Nat}(hb:m b=none):∀ A∈L,b∉A.fp:=λA hA h=>A.th (H.hs.mem A hA) b h hb
theorem Hq.Nn(H:Hq m0 m S L)(f:Fr m M []):Hq m0 M S L:=⟨Hps.of λA hA=>A.fr0 (H.hs.mem A hA) f,H.fr.VY f,H.dj,H.nw⟩
theorem Hq.add(H:Hq m0 m S L)(hp:A.p M)(f:Fr m M [])(hn:∀ b∈A.fp,m b=none):Hq m0 M S (A::L) :=
 ⟨⟨hp,(H.Nn f).hs⟩,H.fr.VY f,List.pairwise_cons.2 ⟨λB hB=>⟨λb hb=>H.new1 (hn b (A.sub b hb)) B hB,λb hb ha=>H.new1 (hn b ha) B hB (B.sub b hb)⟩,H.dj⟩,λC hC=>by
  rcases List.mem_cons.1 hC with rfl | hC
  ·exact λb hb=>H.new0 (hn b (C.sub b hb))
  ·exact H.nw C hC⟩
theorem Hq.perm(H:Hq m0 m S L){L':List As}(h:L'.Perm L):Hq m0 m S L' :=
 ⟨Hps.of λA hA=>H.hs.mem A (h.mem_iff.1 hA),H.fr,(h.pairwise_iff λh=>JF.symm h).2 H.dj,λA hA=>H.nw A (h.mem_iff.1 hA)⟩
theorem Hq.tail(H:Hq m0 m S (A::L)):Hq m0 m S L:=⟨H.hs.2,H.fr,(List.pairwise_cons.1 H.dj).2,λB hB=>H.nw B (List.mem_cons_of_mem _ hB)⟩
theorem Hq.PP(H:Hq m0 m S (A::L))(hp:A'.p M)(f:Fr m M A.wp)(hn:∀ b∈A'.fp,b∈A.fp∨m b=none)(hw:∀ b∈A'.wp,b∈A.wp∨m b=none):Hq m0 M S (A'::L):=by
 obtain ⟨hA,hL⟩:=List.pairwise_cons.1 H.dj
 refine ⟨⟨hp,Hps.of λB hB=>B.fr (H.tail.hs.mem B hB) f λb hb ha=>(hA B hB).1 b ha hb⟩,H.fr.trans f λx hx h0=>(H.nw A (List.mem_cons_self ..) x hx).resolve_left h0,?_,?_⟩
 ·refine List.pairwise_cons.2 ⟨λB hB=>⟨λb hb hbB=>?_,λb hb hbA=>?_⟩,hL⟩
  ·rcases hw b hb with h | h
   ·exact (hA B hB).1 b h hbB
   ·exact B.th (H.tail.hs.mem B hB) b hbB h
  ·rcases hn b hbA with h | h
   ·exact (hA B hB).2 b hb h
   ·exact B.th (H.tail.hs.mem B hB) b (B.sub b hb) h
 ·intro C hC b hb
  rcases List.mem_cons.1 hC with rfl | hC
  ·rcases hw b hb with h | h
   ·exact H.nw A (List.mem_cons_self ..) b h
   ·exact H.new0 h
  ·exact H.nw C (List.mem_cons_of_mem _ hC) b hb
theorem SR{α:Type}:∀ {l:List α} {i:Nat} {a:α},l[i]?=some a→(a::l.eraseIdx i).Perm l
 | x::r,0,a,h=>by simp at h;subst h;exact List.Perm.refl _
 | x::r,i+1,a,h=>(List.Perm.swap x a _).trans ((SR (by simpa using h)).cons x)
theorem set_perm{α:Type}:∀ {l:List α} {i:Nat} (a:α),i < l.length→(a::l.eraseIdx i).Perm (l.set i a)
 | x::r,0,a,h=>List.Perm.refl _
 | x::r,i+1,a,h=>(List.Perm.swap x a _).trans ((set_perm a (by simpa using h)).cons x)
theorem Hq.up(H:Hq m0 m S L)(i:Nat)(hi:L[i]?=some A):Hq m0 m S (A::L.eraseIdx i):=H.perm (SR hi)
theorem Hq.rep(H:Hq m0 m S L)(i:Nat)(hi:L[i]?=some A)(hp:A'.p M)(f:Fr m M A.wp)(hn:∀ b∈A'.fp,b∈A.fp∨m b=none)(hw:∀ b∈A'.wp,b∈A.wp∨m b=none):Hq m0 M S (L.set i A'):=by
 exact ((H.up i hi).PP hp f hn hw).perm (set_perm A' (List.getElem?_eq_some_iff.1 hi).1).symm
theorem Hq.drop(H:Hq m0 m S L)(i:Nat):Hq m0 m S (L.eraseIdx i) :=
 ⟨Hps.of λA hA=>H.hs.mem A ((List.eraseIdx_sublist ..).subset hA),H.fr,H.dj.sublist (List.eraseIdx_sublist ..),λA hA=>H.nw A ((List.eraseIdx_sublist ..).subset hA)⟩
theorem Hq.at(H:Hq m0 m S L)(i:Nat)(hi:L[i]?=some A):A.p m:=H.hs.mem A (List.mem_of_getElem? hi)
theorem Hq.split(H:Hq m0 m S (vG A B::L)):Hq m0 m S (A::B::L):=by
 obtain ⟨hA,hL⟩:=List.pairwise_cons.1 H.dj
 refine ⟨⟨H.hs.1.1,H.hs.1.2.1,H.hs.2⟩,H.fr,?_,?_⟩
 ·refine List.pairwise_cons.2 ⟨λC hC=>?_,List.pairwise_cons.2 ⟨λC hC=>⟨λb hb=>(hA C hC).1 b (List.mem_append_right _ hb),λb hb h=>(hA C hC).2 b hb (List.mem_append_right _ h)⟩,hL⟩⟩
  rcases List.mem_cons.1 hC with rfl | hC
  ·exact H.hs.1.2.2
  ·exact ⟨λb hb=>(hA C hC).1 b (List.mem_append_left _ hb),λb hb h=>(hA C hC).2 b hb (List.mem_append_left _ h)⟩
 ·intro C hC b hb
  rcases List.mem_cons.1 hC with rfl | hC
  ·exact H.nw _ (List.mem_cons_self ..) b (List.mem_append_left _ hb)
  ·rcases List.mem_cons.1 hC with rfl | hC
   ·exact H.nw _ (List.mem_cons_self ..) b (List.mem_append_right _ hb)
   ·exact H.nw C (List.mem_cons_of_mem _ hC) b hb
theorem Hq.join(H:Hq m0 m S (A::B::L)):Hq m0 m S (vG A B::L):=by
 obtain ⟨hA,hL⟩:=List.pairwise_cons.1 H.dj
 obtain ⟨hB,hL⟩:=List.pairwise_cons.1 hL
 refine ⟨⟨⟨H.hs.1,H.hs.2.1,hA B (List.mem_cons_self ..)⟩,H.hs.2.2⟩,H.fr,List.pairwise_cons.2 ⟨λC hC=>⟨λb hb=>?_,λb hb h=>?_⟩,hL⟩,?_⟩
 ·rcases List.mem_append.1 hb with hb | hb
  ·exact (hA C (List.mem_cons_of_mem _ hC)).1 b hb
  ·exact (hB C hC).1 b hb
 ·rcases List.mem_append.1 h with h | h
  ·exact (hA C (List.mem_cons_of_mem _ hC)).2 b hb h
  ·exact (hB C hC).2 b hb h
 ·intro C hC b hb
  rcases List.mem_cons.1 hC with rfl | hC
  ·rcases List.mem_append.1 hb with hb | hb
   ·exact H.nw _ (List.mem_cons_self ..) b hb
   ·exact H.nw _ (List.mem_cons_of_mem _ (List.mem_cons_self ..)) b hb
  ·exact H.nw C (List.mem_cons_of_mem _ (List.mem_cons_of_mem _ hC)) b hb
theorem Hq.done(H:Hq m0 m S (A::L)):A.p m∧Fr m0 m S∧∀ b∈A.wp,b∈S∨m0 b=none:=⟨H.hs.1,H.fr,λb hb=>(H.nw A (List.mem_cons_self ..) b hb).symm⟩
class SameB (A' A:As):Prop where
 fp:A'.fp=A.fp
 wp:A'.wp=A.wp
class cj (L:List As) (G:outParam (List (Nat×Obj))):Prop where
 h:∀ m,Hps m L→Hs m G
instance:cj [] []:=⟨λ_ _=>trivial⟩
instance (priority:=low) {A:As} {L:List As} {G:List (Nat×Obj)} [I:cj L G]:cj (A::L) G:=⟨λm h=>I.h m h.2⟩
instance {b:Nat} {o:Obj} {L:List As} {G:List (Nat×Obj)} [I:cj L G]:cj (qw b o::L) ((b,o)::G):=⟨λm h=>⟨h.1,I.h m h.2⟩⟩
theorem Hq.cs{G:List (Nat×Obj)}[I:cj L G](H:Hq m0 m S L):Hs m G:=I.h m H.hs
abbrev CM(P:Program)(f:Nat)(args:List Value)(m:Mem)(A:As)(R:Value→As→Prop):Prop :=
 MC P f args m λv M=>∃ A',R v A'∧A'.p M∧Fr m M A.wp∧(∀ b∈A'.fp,b∈A.fp∨m b=none)∧∀ b∈A'.wp,b∈A.wp∨m b=none
abbrev CN(P:Program)(f:Nat)(args:List Value)(m:Mem)(R:Value→As→Prop):Prop :=
 MC P f args m λv M=>∃ A',R v A'∧A'.p M∧Fr m M []∧∀ b∈A'.fp,m b=none
theorem qg{o:Obj}{J:Nat→Mem→Prop}{l:Lk J}{l':Lk m}(H:Hq m0 m S L)(k:∀ b M,Fr m M []→Hq m0 M S (qw b o::L)→J b M):NZ m o J l l' :=
 λb hb=>k b _ (Fr.new _ hb) (H.add (A:=qw b o) (Jq _ _) (Fr.new _ hb) (by simpa using hb))
theorem wrQ{b:Nat}{x o:Obj}{J:Mem→Prop}{l:Lk J}{l':Lk m}(i:Nat)(H:Hq m0 m S L)(hi:L[i]?=some (qw b o))(k:∀ M,Fr m M [b]→Hq m0 M S (L.set i (qw b x))→J M):wrO m b x J l l' :=
 k _ (Fr.set (by simp)) (H.rep (A:=qw b o) (A':=qw b x) i hi (Jq _ _) (Fr.set (by simp)) (λb hb=>.inl hb) (λb hb=>.inl hb))
theorem UE{b off:Nat}{c vs:List Value}{T:TypeId}{J:Mem→Prop}{l:Lk J}{l':Lk m}(i:Nat)(H:Hq m0 m S L)(hi:L[i]?=some (qw b (.cells c.toArray T (0,0))))(hl:off+vs.length≤c.length)(h1:vs.all Value.oneCell'=true)(k:∀ M,Fr m M [b]→Hq m0 M S (L.set i (qw b (.cells (c.take off++vs++c.drop (off+vs.length)).toArray T (0,0))))→J M):stQ m ⟨b,off,none⟩ 0 vs J l l':=by
 have h:=Kq (t:=T) (b:=b) (o:=off) vs 0 m c (H.at i hi) (by simpa using hl) (λv hv=>List.all_eq_true.1 h1 v hv)
 simp only [Nat.add_zero] at h
 exact ⟨_,h,k _ (Fr.set (by simp)) (H.rep (A:=qw b (.cells c.toArray T (0,0))) (A':=qw b (.cells (c.take off++vs++c.drop (off+vs.length)).toArray T (0,0))) i hi (Jq _ _) (Fr.set (by simp)) (λb hb=>.inl hb) (λb hb=>.inl hb))⟩
theorem UD{b:Nat}{c vs:List Value}{T:TypeId}{J:Mem→Prop}{l:Lk J}{l':Lk m}(i:Nat)(H:Hq m0 m S L)(hi:L[i]?=some (qw b (.cells c.toArray T (0,0))))(hl:vs.length=c.length)(h1:vs.all Value.oneCell'=true)(k:∀ M,Fr m M [b]→Hq m0 M S (L.set i (qw b (.cells vs.toArray T (0,0))))→J M):stQ m ⟨b,0,none⟩ 0 vs J l l' :=
 UE i H hi (by omega) h1 λM f H'=>k M f (by
  have:List.drop (0+vs.length) c=[]:=List.drop_eq_nil_iff.2 (by omega)
  rw [this] at H';simpa using H')
theorem qa{f:Nat}{args:List Value}{V:Value}{K:Value→Mem→Prop}{l:Lk K}(H:Hq m0 m S L)(h:MC P f args m λv M=>v=V∧Fr m M [])(k:∀ M,Fr m M []→Hq m0 M S L→K V M):VX P f args m K l :=
 jL h λv M ⟨e,g⟩=>by subst e;exact k M g (H.Nn g)
theorem PJ{f:Nat}{args:List Value}{R:Value→Mem→Prop}{K:Value→Mem→Prop}{l:Lk K}(H:Hq m0 m S L)(h:MC P f args m λv M=>R v M∧Fr m M [])(k:∀ v M,R v M→Fr m M []→Hq m0 M S L→K v M):VX P f args m K l :=
 jL h λv M ⟨e,g⟩=>k v M e g (H.Nn g)
theorem qU{f:Nat}{args:List Value}{R:Value→As→Prop}{K:Value→Mem→Prop}{l:Lk K}(i:Nat)(H:Hq m0 m S L)(h:CM P f args m A R)(hi:L[i]?=some A)(k:∀ v M A',R v A'→Fr m M A.wp→Hq m0 M S (L.set i A')→K v M):VX P f args m K l :=
 jL h λv M ⟨A',hr,hp,g,hn,hw⟩=>k v M A' hr g (H.rep i hi hp g hn hw)
theorem Ux{f:Nat}{args:List Value}{V:Value}{K:Value→Mem→Prop}{l:Lk K}(i:Nat)(A A':As)(H:Hq m0 m S L)(h:MC P f args m λv M=>(v=V∧A'.p M)∧Fr m M A.wp)(hi:L[i]?=some A)(hf:A'.fp=A.fp)(hw:A'.wp=A.wp)(k:∀ M,Fr m M A.wp→Hq m0 M S (L.set i A')→K V M):VX P f args m K l :=
 jL h λv M ⟨⟨e,hp⟩,g⟩=>by subst e;exact k M g (H.rep i hi hp g (λb hb=>.inl (hf▸hb)) (λb hb=>.inl (hw▸hb)))
theorem yw{f:Nat}{args:List Value}{R:Value→As→Prop}{K:Value→Mem→Prop}{l:Lk K}(H:Hq m0 m S L)(h:CN P f args m R)(k:∀ v M A',R v A'→Fr m M []→Hq m0 M S (A'::L)→K v M):VX P f args m K l :=
 jL h λv M ⟨A',hr,hp,g,hn⟩=>k v M A' hr g (H.add hp g hn)
theorem Own.st{m m':Mem}{t:TypeId}{size n:Nat}{v:Value}{xs:List Value}(h:Own m t size v n xs)(e:∀ b∈qG v,m' b=m b):Own m' t size v n xs:=by
 refine ⟨h.1,?_⟩
 rcases h.2 with h | ⟨b,cap,tail,rfl,hb,hl⟩
 ·exact .inl h
 ·exact .inr ⟨b,cap,tail,rfl,by rw [e b (by simp [qG])];exact hb,hl⟩
abbrev qV(t:TypeId)(size:Nat)(v:Value)(n:Nat)(xs:List Value):As where
 fp:=qG v
 wp:=qG v
 sub _ h:=h
 p m:=Own m t size v n xs
 st h e:=Own.st h e
 th h:=h.there
theorem Qc{t:TypeId}{size bytes:Nat}{zero:List Value}{x y:Value}{K:Value→Mem→Prop}{l:Lk K}{l1:Lk x}{l2:Lk m}{n k c:Nat}{b:Option Addr}{xs news:List Value}(i:Nat)(H:Hq m0 m S L)(hi:L[i]?=some (qV t size x n xs))(hy:y=.slice b k c)(hnews:ldS m b (k*size)=some news)(hk:news.length=k*size)(h1:∀ v∈news,v.oneCell'=true)(hz:zero.length=size)(hb:(n+k)*bytes≤140737488355328)(h62:n+k≤4611686018427387904)(hK:∀ v M,Fr m M (qG x)→Hq m0 M S (L.set i (qV t size v (n+k) (xs++news)))→K v M):SC P t size bytes zero x y m K l l1 l2 :=
 BY (H.at i hi) hy hnews hk h1 hz hb h62 λv M ho f hb=>hK v M f (H.rep (A':=qV t size v (n+k) (xs++news)) i hi ho f hb hb)
theorem apsQ'{t:TypeId}{x:Value}{K:Value→Mem→Prop}{l:Lk K}{l1:Lk x}{l2:Lk m}{n:Nat}{s:ByteArray}{xs:List Value}(i:Nat)(H:Hq m0 m S L)(hi:L[i]?=some (qV t 1 x n xs))(hb:n+s.size≤140737488355328)(hK:∀ v M,Fr m M (qG x)→Hq m0 M S (L.set i (qV t 1 v (n+s.size) (xs++s.data.toList.map λ(c:UInt8)=>Value.int .u8 c.toNat)))→K v M):qyi P t x (.string s) m K l l1 l2 :=
 qyh (H.at i hi) hb λv M ho f hb=>hK v M f (H.rep (A':=qV t 1 v (n+s.size) (xs++s.data.toList.map λ(c:UInt8)=>Value.int .u8 c.toNat)) i hi ho f hb hb)
theorem Own.zC{G:Prop}{t:TypeId}{size n:Nat}{v:Value}{xs:List Value}(h:Own m t size v n xs)(K:∀ a c,v=.slice a n c→G):G:=by
 obtain ⟨a,c,e⟩:=h.form
 exact K a c e
theorem Hq.Mf{b:Nat}{l:List Value}{t:TypeId}(H:Hq m0 m S (qw b (.cells l.toArray t (0,0))::L))(size n cap:Nat)(h1:l.length=cap*size)(h2:n≤cap):Hq m0 m S (qV t size (.slice (some ⟨b,0,none⟩) n cap) n (l.take (n*size))::L):=by
 have h3:n*size≤cap*size:=Nat.mul_le_mul_right _ h2
 have hb:m b=some (.cells l.toArray t (0,0)):=H.hs.1
 refine H.PP (M:=m) (A':=qV t size (.slice (some ⟨b,0,none⟩) n cap) n (l.take (n*size))) ⟨by rw [List.length_take];omega,.inr ⟨b,cap,l.drop (n*size),rfl,by rw [List.take_append_drop];exact hb,by rw [List.take_append_drop];exact h1⟩⟩ (Fr.refl _ _) ?_ ?_
 ·intro x hx;exact .inl hx
 ·intro x hx;exact .inl hx
theorem zQ{b n:Nat}{l:List Value}{t:TypeId}{fr:Nat×Nat}(h:m b=some (.cells l.toArray t fr))(hn:n≤l.length):ldS m (some ⟨b,0,none⟩) n=some (l.take n):=by
 simp only [ldS]
 rw [Ky h n 0 0 (by omega)];simp
theorem Hq.QP(H:Hq m0 m S L)(t:TypeId)(size:Nat):Hq m0 m S (qV t size (.slice none 0 0) 0 []::L):=H.add (A:=qV t size (.slice none 0 0) 0 []) (Own.nil _ _ _) (Fr.refl _ _) (by simp [qG])
theorem xK{b:Nat}{x o:Obj}{J:Mem→Prop}{l:Lk J}{l':Lk m}(H:Hq m0 m S (qw b o::L))(k:∀ M,Fr m M [b]→Hq m0 M S (qw b x::L)→J M):wrO m b x J l l':=wrQ 0 H rfl k
theorem qs{b:Nat}{c vs:List Value}{T:TypeId}{J:Mem→Prop}{l:Lk J}{l':Lk m}(H:Hq m0 m S (qw b (.cells c.toArray T (0,0))::L))(hl:vs.length=c.length)(h1:vs.all Value.oneCell'=true)(k:∀ M,Fr m M [b]→Hq m0 M S (qw b (.cells vs.toArray T (0,0))::L)→J M):stQ m ⟨b,0,none⟩ 0 vs J l l':=UD 0 H rfl hl h1 k
theorem cV{b off:Nat}{c vs:List Value}{T:TypeId}{J:Mem→Prop}{l:Lk J}{l':Lk m}(H:Hq m0 m S (qw b (.cells c.toArray T (0,0))::L))(hl:off+vs.length≤c.length)(h1:vs.all Value.oneCell'=true)(k:∀ M,Fr m M [b]→Hq m0 M S (qw b (.cells (c.take off++vs++c.drop (off+vs.length)).toArray T (0,0))::L)→J M):stQ m ⟨b,off,none⟩ 0 vs J l l':=UE 0 H rfl hl h1 k
theorem zW{f:Nat}{args:List Value}{R:Value→As→Prop}{K:Value→Mem→Prop}{l:Lk K}(H:Hq m0 m S (A::L))(h:CM P f args m A R)(k:∀ v M A',R v A'→Fr m M A.wp→Hq m0 M S (A'::L)→K v M):VX P f args m K l:=qU 0 H h rfl k
theorem tN0{f:Nat}{args:List Value}{R:Value→As→Prop}{K:Value→Mem→Prop}{l:Lk K}(H:Hq m0 m S (A::L))(h:A.p m→CN P f args m R)(k:∀ v M A',R v A'→Fr m M []→Hq m0 M S (A'::A::L)→K v M):VX P f args m K l:=yw H (h (H.at 0 rfl)) k
theorem Hd{t:TypeId}{size bytes:Nat}{zero:List Value}{x y:Value}{K:Value→Mem→Prop}{l:Lk K}{l1:Lk x}{l2:Lk m}{n k c:Nat}{b:Option Addr}{xs news:List Value}(H:Hq m0 m S (qV t size x n xs::L))(hy:y=.slice b k c)(hnews:ldS m b (k*size)=some news)(hk:news.length=k*size)(h1:∀ v∈news,v.oneCell'=true)(hz:zero.length=size)(hb:(n+k)*bytes≤140737488355328)(h62:n+k≤4611686018427387904)(hK:∀ v M,Fr m M (qG x)→Hq m0 M S (qV t size v (n+k) (xs++news)::L)→K v M):SC P t size bytes zero x y m K l l1 l2:=Qc 0 H rfl hy hnews hk h1 hz hb h62 hK
theorem apsQ0{t:TypeId}{x:Value}{K:Value→Mem→Prop}{l:Lk K}{l1:Lk x}{l2:Lk m}{n:Nat}{s:ByteArray}{xs:List Value}(H:Hq m0 m S (qV t 1 x n xs::L))(hb:n+s.size≤140737488355328)(hK:∀ v M,Fr m M (qG x)→Hq m0 M S (qV t 1 v (n+s.size) (xs++s.data.toList.map λ(c:UInt8)=>Value.int .u8 c.toNat)::L)→K v M):qyi P t x (.string s) m K l l1 l2:=apsQ' 0 H rfl hb hK
theorem cQ{X0:As}{b:Nat}{x o:Obj}{J:Mem→Prop}{l:Lk J}{l':Lk m}(H:Hq m0 m S (X0::qw b o::L))(k:∀ M,Fr m M [b]→Hq m0 M S (X0::qw b x::L)→J M):wrO m b x J l l':=wrQ 1 H rfl k
theorem zA{X0:As}{b:Nat}{c vs:List Value}{T:TypeId}{J:Mem→Prop}{l:Lk J}{l':Lk m}(H:Hq m0 m S (X0::qw b (.cells c.toArray T (0,0))::L))(hl:vs.length=c.length)(h1:vs.all Value.oneCell'=true)(k:∀ M,Fr m M [b]→Hq m0 M S (X0::qw b (.cells vs.toArray T (0,0))::L)→J M):stQ m ⟨b,0,none⟩ 0 vs J l l':=UD 1 H rfl hl h1 k
theorem cK{X0:As}{b off:Nat}{c vs:List Value}{T:TypeId}{J:Mem→Prop}{l:Lk J}{l':Lk m}(H:Hq m0 m S (X0::qw b (.cells c.toArray T (0,0))::L))(hl:off+vs.length≤c.length)(h1:vs.all Value.oneCell'=true)(k:∀ M,Fr m M [b]→Hq m0 M S (X0::qw b (.cells (c.take off++vs++c.drop (off+vs.length)).toArray T (0,0))::L)→J M):stQ m ⟨b,off,none⟩ 0 vs J l l':=UE 1 H rfl hl h1 k
theorem qJo{X0:As}{f:Nat}{args:List Value}{R:Value→As→Prop}{K:Value→Mem→Prop}{l:Lk K}(H:Hq m0 m S (X0::A::L))(h:CM P f args m A R)(k:∀ v M A',R v A'→Fr m M A.wp→Hq m0 M S (X0::A'::L)→K v M):VX P f args m K l:=qU 1 H h rfl k
theorem tN1{X0:As}{f:Nat}{args:List Value}{R:Value→As→Prop}{K:Value→Mem→Prop}{l:Lk K}(H:Hq m0 m S (X0::A::L))(h:A.p m→CN P f args m R)(k:∀ v M A',R v A'→Fr m M []→Hq m0 M S (A'::X0::A::L)→K v M):VX P f args m K l:=yw H (h (H.at 1 rfl)) k
theorem qxr{X0:As}(H:Hq m0 m S (X0::A::L)):Hq m0 m S (X0::L):=H.drop 1
theorem UZ{X0:As}{t:TypeId}{size bytes:Nat}{zero:List Value}{x y:Value}{K:Value→Mem→Prop}{l:Lk K}{l1:Lk x}{l2:Lk m}{n k c:Nat}{b:Option Addr}{xs news:List Value}(H:Hq m0 m S (X0::qV t size x n xs::L))(hy:y=.slice b k c)(hnews:ldS m b (k*size)=some news)(hk:news.length=k*size)(h1:∀ v∈news,v.oneCell'=true)(hz:zero.length=size)(hb:(n+k)*bytes≤140737488355328)(h62:n+k≤4611686018427387904)(hK:∀ v M,Fr m M (qG x)→Hq m0 M S (X0::qV t size v (n+k) (xs++news)::L)→K v M):SC P t size bytes zero x y m K l l1 l2:=Qc 1 H rfl hy hnews hk h1 hz hb h62 hK
theorem Wy{X0 X1:As}{b:Nat}{x o:Obj}{J:Mem→Prop}{l:Lk J}{l':Lk m}(H:Hq m0 m S (X0::X1::qw b o::L))(k:∀ M,Fr m M [b]→Hq m0 M S (X0::X1::qw b x::L)→J M):wrO m b x J l l':=wrQ 2 H rfl k
theorem ZB{X0 X1:As}{b:Nat}{c vs:List Value}{T:TypeId}{J:Mem→Prop}{l:Lk J}{l':Lk m}(H:Hq m0 m S (X0::X1::qw b (.cells c.toArray T (0,0))::L))(hl:vs.length=c.length)(h1:vs.all Value.oneCell'=true)(k:∀ M,Fr m M [b]→Hq m0 M S (X0::X1::qw b (.cells vs.toArray T (0,0))::L)→J M):stQ m ⟨b,0,none⟩ 0 vs J l l':=UD 2 H rfl hl h1 k
theorem eV{X0 X1:As}{b off:Nat}{c vs:List Value}{T:TypeId}{J:Mem→Prop}{l:Lk J}{l':Lk m}(H:Hq m0 m S (X0::X1::qw b (.cells c.toArray T (0,0))::L))(hl:off+vs.length≤c.length)(h1:vs.all Value.oneCell'=true)(k:∀ M,Fr m M [b]→Hq m0 M S (X0::X1::qw b (.cells (c.take off++vs++c.drop (off+vs.length)).toArray T (0,0))::L)→J M):stQ m ⟨b,off,none⟩ 0 vs J l l':=UE 2 H rfl hl h1 k
theorem qxU{X0 X1:As}{f:Nat}{args:List Value}{R:Value→As→Prop}{K:Value→Mem→Prop}{l:Lk K}(H:Hq m0 m S (X0::X1::A::L))(h:CM P f args m A R)(k:∀ v M A',R v A'→Fr m M A.wp→Hq m0 M S (X0::X1::A'::L)→K v M):VX P f args m K l:=qU 2 H h rfl k
theorem tN2{X0 X1:As}{f:Nat}{args:List Value}{R:Value→As→Prop}{K:Value→Mem→Prop}{l:Lk K}(H:Hq m0 m S (X0::X1::A::L))(h:A.p m→CN P f args m R)(k:∀ v M A',R v A'→Fr m M []→Hq m0 M S (A'::X0::X1::A::L)→K v M):VX P f args m K l:=yw H (h (H.at 2 rfl)) k
theorem eX{X0 X1 X2:As}{b:Nat}{x o:Obj}{J:Mem→Prop}{l:Lk J}{l':Lk m}(H:Hq m0 m S (X0::X1::X2::qw b o::L))(k:∀ M,Fr m M [b]→Hq m0 M S (X0::X1::X2::qw b x::L)→J M):wrO m b x J l l':=wrQ 3 H rfl k
theorem XT{X0 X1 X2:As}{b:Nat}{c vs:List Value}{T:TypeId}{J:Mem→Prop}{l:Lk J}{l':Lk m}(H:Hq m0 m S (X0::X1::X2::qw b (.cells c.toArray T (0,0))::L))(hl:vs.length=c.length)(h1:vs.all Value.oneCell'=true)(k:∀ M,Fr m M [b]→Hq m0 M S (X0::X1::X2::qw b (.cells vs.toArray T (0,0))::L)→J M):stQ m ⟨b,0,none⟩ 0 vs J l l':=UD 3 H rfl hl h1 k
theorem eK{X0 X1 X2:As}{b off:Nat}{c vs:List Value}{T:TypeId}{J:Mem→Prop}{l:Lk J}{l':Lk m}(H:Hq m0 m S (X0::X1::X2::qw b (.cells c.toArray T (0,0))::L))(hl:off+vs.length≤c.length)(h1:vs.all Value.oneCell'=true)(k:∀ M,Fr m M [b]→Hq m0 M S (X0::X1::X2::qw b (.cells (c.take off++vs++c.drop (off+vs.length)).toArray T (0,0))::L)→J M):stQ m ⟨b,off,none⟩ 0 vs J l l':=UE 3 H rfl hl h1 k
theorem eJ{X0 X1 X2 X3:As}{b:Nat}{x o:Obj}{J:Mem→Prop}{l:Lk J}{l':Lk m}(H:Hq m0 m S (X0::X1::X2::X3::qw b o::L))(k:∀ M,Fr m M [b]→Hq m0 M S (X0::X1::X2::X3::qw b x::L)→J M):wrO m b x J l l':=wrQ 4 H rfl k
theorem XS{X0 X1 X2 X3:As}{b:Nat}{c vs:List Value}{T:TypeId}{J:Mem→Prop}{l:Lk J}{l':Lk m}(H:Hq m0 m S (X0::X1::X2::X3::qw b (.cells c.toArray T (0,0))::L))(hl:vs.length=c.length)(h1:vs.all Value.oneCell'=true)(k:∀ M,Fr m M [b]→Hq m0 M S (X0::X1::X2::X3::qw b (.cells vs.toArray T (0,0))::L)→J M):stQ m ⟨b,0,none⟩ 0 vs J l l':=UD 4 H rfl hl h1 k
theorem eZ{X0 X1 X2 X3 X4:As}{b:Nat}{x o:Obj}{J:Mem→Prop}{l:Lk J}{l':Lk m}(H:Hq m0 m S (X0::X1::X2::X3::X4::qw b o::L))(k:∀ M,Fr m M [b]→Hq m0 M S (X0::X1::X2::X3::X4::qw b x::L)→J M):wrO m b x J l l':=wrQ 5 H rfl k
theorem XR{X0 X1 X2 X3 X4:As}{b:Nat}{c vs:List Value}{T:TypeId}{J:Mem→Prop}{l:Lk J}{l':Lk m}(H:Hq m0 m S (X0::X1::X2::X3::X4::qw b (.cells c.toArray T (0,0))::L))(hl:vs.length=c.length)(h1:vs.all Value.oneCell'=true)(k:∀ M,Fr m M [b]→Hq m0 M S (X0::X1::X2::X3::X4::qw b (.cells vs.toArray T (0,0))::L)→J M):stQ m ⟨b,0,none⟩ 0 vs J l l':=UD 5 H rfl hl h1 k
end
attribute [irreducible] qw
end Go.Fw
namespace Go.Fw
open Go
abbrev bv(x:UInt8):Value:=.int .u8 (x.toNat:Int)
def bc(x:UInt8):List Value:=[bv x]
abbrev bys(l:List UInt8):List Value:=l.flatMap bc
theorem qkx(x:UInt8):(bc x).length=1:=rfl
theorem LR(l:List UInt8):bys l=l.map bv:=by
 induction l with
 | nil=>rfl
 | cons x r ih=>simp only [bys,List.flatMap_cons,List.map_cons] at *;rw [ih];rfl
theorem qyb(l:List UInt8):(bys l).length=l.length:=by rw [LR,List.length_map]
theorem qya(l:List UInt8):∀ v∈bys l,v.oneCell'=true:=by
 intro v hv
 rw [LR] at hv
 obtain ⟨x,_,rfl⟩:=List.mem_map.1 hv
 rfl
theorem qyc(l r:List UInt8):bys (l++r)=bys l++bys r:=by simp [bys]
theorem u64_in(n:Int)(h:0≤n∧n≤18446744073709551615):IntKind.u64.wrap n=n:=by
 simp [IntKind.wrap,IntKind.bits,IntKind.signed];omega
theorem Rq{m:Mem}(a:Nat)(k:Int)(b:Nat)(hk:k=b)(hb:b≤64):rd (.ish .shr) [.int .u64 (a:Int),.int .u64 k] m=some (.int .u64 ((a / 2 ^ b:Nat):Int)):=by
 subst hk
 show (if (b:Int) < 0 then none else some (Value.int .u64 _))=_
 rw [if_neg (by omega)]
 congr 2
 have:min (b:Int).toNat IntKind.u64.bits=b:=by show min _ 64=_;omega
 rw [this,Int.fdiv_eq_ediv_of_nonneg _ (Int.pow_nonneg (by omega))]
 push_cast;rfl
theorem qja{m:Mem}(x:Nat)(h:x < 256):rd (.ibt .or) [.int .u8 (x:Int),.int .u8 128] m=some (.int .u8 ((x % 128+128:Nat):Int)):=by
 show some (Value.int .u8 (IntKind.u8.wrap _))=_
 congr 2
 have:(BitVec.ofInt IntKind.u8.bits (x:Int) ||| BitVec.ofInt IntKind.u8.bits 128).toNat=x % 128+128:=by
  have key:∀ y:Fin 256,(BitVec.ofNat 8 y.val ||| BitVec.ofInt 8 128).toNat=y.val % 128+128:=by decide +kernel
  have h1:BitVec.ofInt IntKind.u8.bits (x:Int)=BitVec.ofNat 8 x:=by
   show BitVec.ofInt 8 _=_
   apply BitVec.eq_of_toNat_eq
   rw [BitVec.toNat_ofInt,BitVec.toNat_ofNat];omega
  rw [h1]
  exact key ⟨x,h⟩
 rw [this,IntWalk.u8_in];omega
theorem SU(n:Nat):IntKind.u8.wrap (n:Int)=((n % 256:Nat):Int):=by rw [IntKind.wrap_u8];omega
section
variable {m m':Mem}
abbrev RdB(m:Mem)(v:Value)(l:List UInt8):Prop:=RdS 1 bc m v l
theorem cC{α:Type}{k:Nat}{enc:α→List Value}{a:Option Addr}{c:Nat}{l:List α}(h:RdS k enc m (.slice a l.length c) l):ldS m a (l.length*k)=some (l.flatMap enc):=by
 obtain ⟨hk,a',c',e,_,hr⟩:=h
 cases e
 have hl:=xQ hk l
 rcases hr with h0 | ⟨b,o,rfl,hc⟩
 ·rw [h0] at hl ⊢
  have:l.length*k=0:=by simpa using hl.symm
  rw [this]
  cases a with
  | none=>rfl
  | some a=>rfl
 ·rw [← hl]
  exact IC _ o 0 (λj hj=>by rw [Nat.add_zero];exact hc j _ (List.getElem?_eq_getElem hj))
theorem su{α:Type}{k:Nat}{enc:α→List Value}(hk:∀ x,(enc x).length=k):∀ (l:List α) (n:Nat),(l.take n).flatMap enc=(l.flatMap enc).take (n*k)
 | [],n=>by simp
 | x::r,0=>by simp
 | x::r,n+1=>by
  rw [List.take_succ_cons,List.flatMap_cons,List.flatMap_cons,su hk r n,List.take_append,hk]
  rw [List.take_of_length_le (l:=enc x) (by rw [hk,Nat.add_mul];omega),show (n+1)*k - k=n*k from by rw [Nat.add_mul];omega]
theorem HJ{α:Type}{k:Nat}{enc:α→List Value}(hk:∀ x,(enc x).length=k):∀ (l:List α) (n:Nat),(l.drop n).flatMap enc=(l.flatMap enc).drop (n*k)
 | [],n=>by simp
 | x::r,0=>by simp
 | x::r,n+1=>by
  rw [List.drop_succ_cons,List.flatMap_cons,HJ hk r n,List.drop_append,hk]
  have h1:(enc x).drop ((n+1)*k)=[]:=List.drop_eq_nil_iff.2 (by rw [hk,Nat.add_mul];omega)
  rw [h1,List.nil_append,show (n+1)*k - k=n*k from by rw [Nat.add_mul];omega]
theorem RdS.cut{α:Type}{k:Nat}{enc:α→List Value}{a:Option Addr}{c:Nat}{l:List α}(k0:0 < k)(h:RdS k enc m (.slice a l.length c) l)(lo hi:Nat)(h1:lo≤hi)(h2:hi≤l.length) :
  ∃ a' c',xG k a c lo hi=some (.slice a' (hi - lo) c')∧RdS k enc m (.slice a' (hi - lo) c') ((l.take hi).drop lo)∧qG (.slice a' (hi - lo) c')=qG (.slice a (hi - lo) c'):=by
 obtain ⟨hk,a0,c0,e,hc,hr⟩:=h
 cases e
 have hlen:((l.take hi).drop lo).length=hi - lo:=by simp;omega
 have hcut:(0:Int)≤lo∧(lo:Int)≤hi∧(hi:Int)≤c:=by omega
 refine ⟨if c=lo then a else a.map (·.add (lo*k)),c - lo,?_,⟨hk,_,_,by rw [hlen],by rw [hlen];omega,?_⟩,?_⟩
 ·unfold xG
  rw [if_pos hcut]
  simp only [Int.toNat_natCast]
 ·rw [HJ hk,su hk]
  by_cases e:hi=lo
  ·left
   subst e
   rw [List.drop_eq_nil_iff,List.length_take];omega
  ·rcases hr with h0 | ⟨b,o,rfl,hcell⟩
   ·exfalso
    have:=xQ hk l
    rw [h0] at this
    have h3:0 < l.length*k:=Nat.mul_pos (by omega) k0
    simp at this;omega
   ·right
    refine ⟨b,o+lo*k,?_,λi v hv=>?_⟩
    ·rw [if_neg (by omega)];simp [xH]
    ·rw [List.getElem?_drop,List.getElem?_take] at hv
     split at hv
     ·rw [Nat.add_assoc];exact hcell _ _ hv
     ·cases hv
 ·split
  ·rfl
  ·cases a with
   | none=>rfl
   | some a=>simp only [Option.map_some,qG,Addr.add];split<;>rfl
theorem RdS.nil{α:Type}{k:Nat}{enc:α→List Value}(hk:∀ x,(enc x).length=k)(m:Mem):RdS k enc m (.slice none 0 0) ([]:List α):=⟨hk,none,0,rfl,by simp,.inl rfl⟩
theorem Rd1.st{a:Option Addr}{l:List Value}{n c:Nat}(h:Rd1 m a l)(e:∀ b∈qG (.slice a n c),m' b=m b):Rd1 m' a l:=by
 rcases h with rfl | ⟨b,o,rfl,hc⟩
 ·exact .inl rfl
 ·exact .inr ⟨b,o,rfl,λi v hv=>by rw [e b (by simp [qG])];exact hc i v hv⟩
theorem RdS.st{α:Type}{k:Nat}{enc:α→List Value}{v:Value}{l:List α}(h:RdS k enc m v l)(e:∀ b∈qG v,m' b=m b):RdS k enc m' v l:=by
 obtain ⟨hk,a,c,rfl,hc,hr⟩:=h
 exact ⟨hk,a,c,rfl,hc,hr.st e⟩
abbrev byA(t:TypeId)(v:Value)(l:List UInt8):As:=qV t 1 v l.length (bys l)
theorem zF{t:TypeId}{v:Value}{l:List UInt8}(h:(byA t v l).p m):RdB m v l:=Own.rds (by omega) qkx h
theorem rK{t:TypeId}{v:Value}{l r:List UInt8}:qV t 1 v (l.length+r.length) (bys l++bys r)=byA t v (l++r):=by
 have:l.length+r.length=(l++r).length:=by simp
 rw [this,← qyc]
theorem qyT(n:Nat)(h:n < 256):Value.int .u8 (n:Int)=bv (UInt8.ofNat n):=by
 have:(UInt8.ofNat n).toNat=n:=by simp;omega
 rw [bv,this]
theorem qkR(s:ByteArray):(s.data.toList.map λ(c:UInt8)=>Value.int .u8 c.toNat)=bys s.data.toList:=by rw [LR]
end
end Go.Fw
namespace Go.Fw
open Go
theorem MI{m:Mem}(x:Nat)(h:x < 2 ^ 64):rd (.ibt .xor) [.int .u64 (x:Int),.int .u64 0] m=some (.int .u64 (x:Int)):=by
 show some (Value.int .u64 (IntKind.u64.wrap _))=_
 congr 2
 have:(BitVec.ofInt IntKind.u64.bits (x:Int) ^^^ BitVec.ofInt IntKind.u64.bits 0).toNat=x:=by
  show (BitVec.ofInt 64 (x:Int) ^^^ BitVec.ofInt 64 0).toNat=_
  rw [BitVec.toNat_xor,BitVec.toNat_ofInt,BitVec.toNat_ofInt]
  simp;omega
 rw [this,u64_in];omega
theorem MH{m:Mem}(x:Nat)(h:x < 2 ^ 64):rd (.ibt .xor) [.int .u64 (x:Int),.int .u64 18446744073709551615] m=some (.int .u64 ((18446744073709551615 - x:Nat):Int)):=by
 show some (Value.int .u64 (IntKind.u64.wrap _))=_
 congr 2
 have:(BitVec.ofInt IntKind.u64.bits (x:Int) ^^^ BitVec.ofInt IntKind.u64.bits 18446744073709551615).toNat=18446744073709551615 - x:=by
  show (BitVec.ofInt 64 (x:Int) ^^^ BitVec.ofInt 64 18446744073709551615).toNat=_
  have e:BitVec.ofInt 64 18446744073709551615=BitVec.allOnes 64:=by decide
  rw [e,BitVec.xor_allOnes,BitVec.toNat_not,BitVec.toNat_ofInt]
  simp;omega
 rw [this,u64_in];omega
end Go.Fw
