import Derived.Test.YtimedjfpihdffaaGreatCsX
import Derived.Test.YtimedjfpihdffaaGreatCqY
set_option linter.unusedVariables false
set_option linter.unusedSimpArgs false
set_option maxHeartbeats 16000000
namespace Go.Fw
open Go
structure Mv where
 kind:Int
 who:Int
 num:Int
 cmd:Cmd
 inst:Int×Int
 deriving DecidableEq
def Mv.cs (a:Mv):List Value:=[.int .i64 a.kind]++([.int .i64 a.who]++([.int .i64 a.num]++(a.cmd.cs++(pc a.inst))))
abbrev Mv.v (a:Mv):Value:=.agg a.cs.toArray
theorem Mv.len (a:Mv):a.cs.length=12:=rfl
theorem Mv.all (a:Mv):a.cs.take 12=a.cs:=rfl
theorem Mv.Kj (a:Mv):(a.cs.drop 0).take 12=a.cs:=rfl
theorem Mv.vS (a:Mv):lay a.cs [] []=some a.cs:=rfl
theorem Mv.VR (a b:Mv):lay a.cs [(0,12)] [.agg b.cs.toArray]=some b.cs:=rfl
theorem Mv.g0 (a:Mv):a.cs[0]?=some (.int .i64 a.kind):=rfl
theorem Mv.s0 (a:Mv) (x:Int):a.cs.set 0 (.int .i64 x)=({ a with kind:=x }:Mv).cs:=rfl
theorem Mv.g1 (a:Mv):a.cs[1]?=some (.int .i64 a.who):=rfl
theorem Mv.s1 (a:Mv) (x:Int):a.cs.set 1 (.int .i64 x)=({ a with who:=x }:Mv).cs:=rfl
theorem Mv.g2 (a:Mv):a.cs[2]?=some (.int .i64 a.num):=rfl
theorem Mv.s2 (a:Mv) (x:Int):a.cs.set 2 (.int .i64 x)=({ a with num:=x }:Mv).cs:=rfl
theorem Mv.g3 (a:Mv):a.cs[3]?=some (.int .i64 a.cmd.kind):=rfl
theorem Mv.g4 (a:Mv):a.cs[4]?=some (.int .i64 a.cmd.client):=rfl
theorem Mv.g5 (a:Mv):a.cs[5]?=some (.int .i64 a.cmd.seq):=rfl
theorem Mv.g6 (a:Mv):a.cs[6]?=some (.string a.cmd.key):=rfl
theorem Mv.g7 (a:Mv):a.cs[7]?=some (.string a.cmd.fin):=rfl
theorem Mv.g8 (a:Mv):a.cs[8]?=some (.string a.cmd.old):=rfl
theorem Mv.g9 (a:Mv):a.cs[9]?=some (.string a.cmd.val):=rfl
theorem Mv.Qi (a:Mv):(a.cs.drop 3).take 7=a.cmd.cs:=rfl
theorem Mv.Vb (a:Mv) (x:Cmd):a.cs.take 3++(x.cs++a.cs.drop 10)=({ a with cmd:=x }:Mv).cs:=rfl
theorem Mv.g10 (a:Mv):a.cs[10]?=some (.int .i64 a.inst.1):=rfl
theorem Mv.g11 (a:Mv):a.cs[11]?=some (.int .i64 a.inst.2):=rfl
theorem Mv.s10 (a:Mv) (x:Int):a.cs.set 10 (.int .i64 x)=({ a with inst:=(x,a.inst.2) }:Mv).cs:=rfl
theorem Mv.s11 (a:Mv) (x:Int):a.cs.set 11 (.int .i64 x)=({ a with inst:=(a.inst.1,x) }:Mv).cs:=rfl
theorem Mv.DZ (a:Mv):(a.cs.drop 10).take 2=pc a.inst:=rfl
theorem Mv.Ej (a:Mv) (x:Int×Int):a.cs.take 10++(pc x++a.cs.drop 12)=({ a with inst:=x }:Mv).cs:=rfl
abbrev Mv.zero:Mv:=⟨0,0,0,Cmd.zero,(0,0)⟩
theorem Mv.one (a:Mv):a.cs.all Value.oneCell'=true:=rfl
theorem Mv_fa:Value.agg (List.toArray [.int .i64 0,.int .i64 0,.int .i64 0,.int .i64 0,.int .i64 0,.int .i64 0,.string noB,.string noB,.string noB,.string noB,.int .i64 0,.int .i64 0])=.agg (Mv.zero.cs).toArray:=rfl
theorem Mv_fl (ps:List (Nat×Nat)) (vs:List Value):lay [.int .i64 0,.int .i64 0,.int .i64 0,.int .i64 0,.int .i64 0,.int .i64 0,.string noB,.string noB,.string noB,.string noB,.int .i64 0,.int .i64 0] ps vs=lay (Mv.zero.cs) ps vs:=rfl
theorem Mv_fc (t:TypeId) (fr:Nat×Nat):Obj.cells (List.toArray [.int .i64 0,.int .i64 0,.int .i64 0,.int .i64 0,.int .i64 0,.int .i64 0,.string noB,.string noB,.string noB,.string noB,.int .i64 0,.int .i64 0]) t fr=.cells (Mv.zero.cs).toArray t fr:=rfl
attribute [go_sem ↓] Mv_fa Mv_fl Mv_fc
theorem Mv.eq (c d:Mv):qi [.i .i64,.i .i64,.i .i64,.i .i64,.i .i64,.i .i64,.s,.s,.s,.s,.i .i64,.i .i64] c.cs d.cs=some (decide (c=d)):=by
 refine (show qi _ _ _=_ from (zJ (HB c.kind d.kind) (zJ (HB c.who d.who) (zJ (HB c.num d.num) (zJ (Cmd.eq c.cmd d.cmd) (pX c.inst d.inst)))))).trans ?_
 congr 1;rw [Bool.eq_iff_iff];cases c;cases d;simp [and_assoc]
attribute [go_sem] Mv.len Mv.all Mv.Kj Mv.vS Mv.VR Mv.g0 Mv.s0 Mv.g1 Mv.s1 Mv.g2 Mv.s2 Mv.g3 Mv.g4 Mv.g5 Mv.g6 Mv.g7 Mv.g8 Mv.g9 Mv.Qi Mv.Vb Mv.g10 Mv.g11 Mv.s10 Mv.s11 Mv.DZ Mv.Ej Mv.one Mv.eq
end Go.Fw
namespace Go.Fw
open Go.Proofs
variable {m m0 M:Mem} {S:List Nat} {L:List As}
theorem cr {V:Wv} {W:Wd} (ho:V.ok W) {j:Nat} {C:Co} (hC:W.cores[j]?=some C):∃ v,V.cs[j]?=some v∧v.2.ok C:=by
 have h:=(List.getElem?_eq_some_iff.1 hC).1
 have h1:=ho.cs
 exact ⟨V.cs[j]'(by omega),List.getElem?_eq_getElem (by omega),ho.cores j _ C (List.getElem?_eq_getElem (by omega)) hC⟩
abbrev I64 (n:Int):Prop:=-9223372036854775808≤n∧n≤9223372036854775807
theorem aO (n lo hi:Int) (h:lo≤hi) (hn:I64 n) (h1 : -1000000000000≤lo) (h2:hi≤1000000000000):MC Tryz.prog Hb [.int .i64 n,.int .i64 lo,.int .i64 hi] m fun v M=>(∃ r,v=.int .i64 r∧lo≤r∧r≤hi)∧Fr m M []:=by
 refine Ge (by simp [Tryz.f33]) ?_
 have hd:0 < hi - lo+1:=by omega
 have e1:=Int.tmod_lt_of_pos n hd
 have e2 : -(hi - lo+1) < n.tmod (hi - lo+1):=by
  have:=Int.lt_tmod_of_pos n hd
  omega
 have H:=Hq.refl m []
 simp (disch:=omega) only [go_sem,undef,mg]
 generalize n.tmod (hi - lo+1)=q at *
 refine ZI (fun h3=>?_) (fun h3=>?_)
 ·simp (disch:=omega) only [go_sem,undef]
  exact ⟨⟨_,rfl,by omega,by omega⟩,H.fr⟩
 ·simp (disch:=omega) only [go_sem,undef]
  exact ⟨⟨_,rfl,by omega,by omega⟩,H.fr⟩
structure CoG (C:Co) (n i:Nat):Prop where
 ok:C.Ok
 n:C.n=n
 me:C.me=i
 recs:C.recs.length≤1000
 out:C.out.length≤10000
 leads:C.leads.length≤10000
 tk:∀ l∈C.leads,0≤l.ticks∧l.ticks≤1000000000
 lg:C.jq.lg.length < 1000000
 tw:∀ l bs,∀ w∈(C.jq.kS l bs).wishes,0≤w.ticks∧w.ticks≤1000000000
 wl:C.wishes.length≤256
 top:C.top.g C.me≤1073741824
 top0:0≤C.top.g C.me
structure PlG (W:Wd) (n:Nat):Prop where
 num:W.n=n
 n3:n=3∨n=5∨n=7
 cl:W.cores.length=n
 kl:W.kept.length=n
 co:∀ i C,W.cores[i]?=some C→CoG C n i
 ke:∀ k∈W.kept,k.length≤1000000∧∀ b∈k,b.length≤1099511627776
 on:W.on.length≤1000000
 dst:∀ y∈W.on,∃ k:Nat,k < n∧y.dst=(k:Nat)
abbrev plK (m:Mem) (S:List Nat) (L:List As) (wb i:Nat) (W1:Wd) (Q:Exit→Env→Mem→Prop):Prop :=
 ∀ V1 M (E':Env),E'.get 0=lp wb→E'.get 5=.int .i64 (i:Nat)→E'.has 0=true→E'.has 5=true→V1.ok W1→Hq m M S (wdA wb V1 W1::L)→Q .normal E' M
variable {Q:Exit→Env→Mem→Prop} {E:Env} {wb i b3 n:Nat} {V:Wv} {W:Wd} {C:Co} {x:Mv}
abbrev mvA (b:Nat) (x:Mv):As:=qv b (.cells x.cs.toArray Oi (0,0))
theorem qXs (hV:V.ok W) (hC:W.cores[i]?=some C) (hg:CoG C n i)
  (H:Hq m M S [wdA wb V W,mvA b3 x])
  (K:plK m S [mvA b3 x] wb i (W.put i (C.zm x.cmd).1) Q)
  (e0:E.get 0=lp wb) (e3:E.get 3=lp b3) (e5:E.get 5=.int .i64 (i:Nat)) (h0:E.has 0=true) (h3:E.has 3=true) (h5:E.has 5=true) :
  wpN Tryz.prog jf Q E M:=by
 have hn3:=hg.ok.n
 have hme:=hg.ok.me
 have hr1:=hg.recs
 have hr2:=hg.out
 have hr3:=hg.leads
 refine Exists.elim (cr hV hC) fun v hv=>?_
 have hcr:=Yj (H.at 0 rfl)
 refine Exists.elim hcr.form fun ca hcv=>Exists.elim hcv fun cc hcv=>?_
 rw [hcv] at hcr
 have hvl:=(List.getElem?_eq_some_iff.1 hv.1).1
 refine RdS.elK hcr hvl (by decide) fun bx o v' hv' hix hE=>?_
 have ev:v'=v:=Option.some.inj (hv'.symm.trans hv.1)
 subst ev
 have hp0:(cpL v')[0]?=some (lp v'.1):=rfl
 have hkk:∀ k∈zS C.lg,qN k:=fun k hk=>by
  obtain ⟨p,hp,rfl⟩:=List.mem_map.1 hk
  exact (hg.ok.lg p hp).1
 have hpr:=fun M (hA:(coA v'.1 v'.2 C).p M)=>We hA hv.2 x.cmd hkk hg.top hg.top0 hg.ok.xl (by omega) (by omega) (by omega) (by omega) (by omega)
 have hc:=ji (H.at 0 rfl)
 simp (disch:=omega) only [go_sem,undef,e0,e3,e5,h0,h3,h5,hc,wdC,hcv,hix,hE.ld0,hp0,H.cs]
 have H:=oE hv.1 hC H
 refine jb H (hpr _ (H.at 0 rfl)) fun u M A' hR f H=>?_
 refine hR.E fun Y2 eu hoY eA=>?_
 subst eu eA
 have H:=oF hv.1 hC H
 simp (disch:=omega) only [go_sem,undef,e0,e5,h0,h5]
 exact K _ M _ rfl rfl rfl rfl (te hV hoY) H
theorem qXr (hV:V.ok W) (hC:W.cores[i]?=some C) (hg:CoG C n i)
  (H:Hq m M S (wdA wb V W::L))
  (K:∀ l' bs,l'.Perm (zS C.jq.lg)→Asc l'→bs.length=l'.length→plK m S L wb i (W.put i (C.oH l' bs)) Q)
  (e0:E.get 0=lp wb) (e5:E.get 5=.int .i64 (i:Nat)) (h0:E.has 0=true) (h5:E.has 5=true) :
  wpN Tryz.prog jX Q E M:=by
 have hr1:=hg.recs
 have hr2:=hg.out
 have hr3:=hg.leads
 refine Exists.elim (cr hV hC) fun v hv=>?_
 have hcr:=Yj (H.at 0 rfl)
 refine Exists.elim hcr.form fun ca hcv=>Exists.elim hcv fun cc hcv=>?_
 rw [hcv] at hcr
 have hvl:=(List.getElem?_eq_some_iff.1 hv.1).1
 refine RdS.elK hcr hvl (by decide) fun bx o v' hv' hix hE=>?_
 have ev:v'=v:=Option.some.inj (hv'.symm.trans hv.1)
 subst ev
 have hp0:(cpL v')[0]?=some (lp v'.1):=rfl
 have hpr:=fun M (hA:(coA v'.1 v'.2 C).p M)=>RU hA hv.2 hg.ok (by omega) (by omega) (by omega) hg.tk hg.lg hg.tw
 have hc:=ji (H.at 0 rfl)
 simp (disch:=omega) only [go_sem,undef,e0,e5,h0,h5,hc,wdC,hcv,hix,hE.ld0,hp0]
 have H:=oE hv.1 hC H
 refine jb H (hpr _ (H.at 0 rfl)) fun u M A' hR f H=>?_
 refine Exists.elim hR fun l' hR=>Exists.elim hR fun bs hR=>?_
 have K:=K l' bs hR.1 hR.2.1 hR.2.2.1
 have hR:=hR.2.2.2
 refine hR.E fun Y2 eu hoY eA=>?_
 subst eu eA
 have H:=oF hv.1 hC H
 simp (disch:=omega) only [go_sem,undef,e0,e5,h0,h5]
 exact K _ M _ rfl rfl rfl rfl (te hV hoY) H
theorem qXp (hV:V.ok W) (hC:W.cores[i]?=some C) (hg:CoG C n i)
  (H:Hq m M S [wdA wb V W,mvA b3 x])
  (K:plK m S [mvA b3 x] wb i (W.put i (C.recover x.inst).1) Q)
  (e0:E.get 0=lp wb) (e3:E.get 3=lp b3) (e5:E.get 5=.int .i64 (i:Nat)) (h0:E.has 0=true) (h3:E.has 3=true) (h5:E.has 5=true) :
  wpN Tryz.prog jJ Q E M:=by
 have hn3:=hg.ok.n
 have hr1:=hg.recs
 have hr2:=hg.out
 have hr3:=hg.leads
 have hr4:=hg.wl
 have hb:=qzf hg.ok x.inst
 refine Exists.elim (cr hV hC) fun v hv=>?_
 have hcr:=Yj (H.at 0 rfl)
 refine Exists.elim hcr.form fun ca hcv=>Exists.elim hcv fun cc hcv=>?_
 rw [hcv] at hcr
 have hvl:=(List.getElem?_eq_some_iff.1 hv.1).1
 refine RdS.elK hcr hvl (by decide) fun bx o v' hv' hix hE=>?_
 have ev:v'=v:=Option.some.inj (hv'.symm.trans hv.1)
 subst ev
 have hp0:(cpL v')[0]?=some (lp v'.1):=rfl
 have hpr:=fun M (hA:(coA v'.1 v'.2 C).p M)=>Jm hA hv.2 x.inst (by omega) (by omega) (by omega) (by omega) (by omega) (by omega) (by omega)
 have hc:=ji (H.at 0 rfl)
 simp (disch:=omega) only [go_sem,undef,e0,e3,e5,h0,h3,h5,hc,wdC,hcv,hix,hE.ld0,hp0,H.cs]
 have H:=oE hv.1 hC H
 refine jb H (hpr _ (H.at 0 rfl)) fun u M A' hR f H=>?_
 refine hR.E fun Y2 eu hoY eA=>?_
 subst eu eA
 have H:=oF hv.1 hC H
 simp (disch:=omega) only [go_sem,undef,e0,e5,h0,h5]
 exact K _ M _ rfl rfl rfl rfl (te hV hoY) H
end Go.Fw
namespace Go.Fw
open Go.Proofs
variable {m m0 M:Mem} {S:List Nat} {L:List As}
variable {Q:Exit→Env→Mem→Prop} {E:Env} {wb i b3 b7 n:Nat} {V:Wv} {W:Wd} {C:Co} {x:Mv} {y:Lt}
theorem RdS.cutK {α:Type} {G:Prop} {k:Nat} {enc:α→List Value} {a:Option Addr} {c:Nat} {l:List α} (k0:0 < k) (h:RdS k enc m (.slice a l.length c) l) (lo hi:Nat) (h1:lo≤hi) (h2:hi≤l.length)
  (K:∀ a' c',xy k a c lo hi=some (.slice a' (hi - lo) c')→(∀ M,RdS k enc M (.slice a l.length c) l→ldS M a' ((hi - lo)*k)=some (((l.take hi).drop lo).flatMap enc))→G):G:=by
 obtain ⟨a',c',e,hr,_⟩:=RdS.cut k0 h lo hi h1 h2
 refine K a' c' e fun M hM=>?_
 obtain ⟨a2,c2,e2,hr2,_⟩:=RdS.cut k0 hM lo hi h1 h2
 rw [e] at e2
 injection Option.some.inj e2 with ea _ ec
 subst ea ec
 have hl:((l.take hi).drop lo).length=hi - lo:=by simp;omega
 rw [← hl] at hr2
 have:=al hr2
 rw [hl] at this
 exact this
abbrev ltA (b:Nat) (y:Lt):As:=qv b (.cells y.cs.toArray qw (0,0))
theorem qQq (hV:V.ok W) (hC:W.cores[i]?=some C) (hf:C.Fit)
  (H:Hq m M S (wdA wb V W::ltA b7 y::L))
  (K:∀ b,plK m S (ltA b7 y::L) wb i (W.put i (C.take b y).1) Q)
  (e0:E.get 0=lp wb) (e5:E.get 5=.int .i64 (i:Nat)) (e7:E.get 7=lp b7) (h0:E.has 0=true) (h5:E.has 5=true) (h7:E.has 7=true) :
  wpN Tryz.prog zk Q E M:=by
 refine Exists.elim (cr hV hC) fun v hv=>?_
 have hcr:=Yj (H.at 0 rfl)
 refine Exists.elim hcr.form fun ca hcv=>Exists.elim hcv fun cc hcv=>?_
 rw [hcv] at hcr
 have hvl:=(List.getElem?_eq_some_iff.1 hv.1).1
 refine RdS.elK hcr hvl (by decide) fun bx o v' hv' hix hE=>?_
 have ev:v'=v:=Option.some.inj (hv'.symm.trans hv.1)
 subst ev
 have hp0:(cpL v')[0]?=some (lp v'.1):=rfl
 have hpr:=fun M (hA:(coA v'.1 v'.2 C).p M)=>AN hA hv.2 hf y
 have hc:=ji (H.at 0 rfl)
 have hcy:=cell_of (H.at 1 rfl)
 simp (disch:=omega) only [go_sem,undef,e0,e5,e7,h0,h5,h7,hc,wdC,hcv,hix,hE.ld0,hp0,hcy]
 have H:=oE hv.1 hC H
 refine jb H (hpr _ (H.at 0 rfl)) fun u M A' hR f H=>?_
 refine Exists.elim hR fun bw hR=>?_
 refine hR.E fun Y2 eu hoY eA=>?_
 subst eu eA
 have H:=oF hv.1 hC H
 simp (disch:=omega) only [go_sem,undef,e0,e5,h0,h5]
 exact K bw _ M _ rfl rfl rfl rfl (te hV hoY) H
def Wd.cut (W:Wd) (k:Nat):Wd:={ W with on:=W.on.eraseIdx k }
theorem qQz {k:Nat} (hV:V.ok W) (hk:k < W.on.length) (hon:W.on.length≤1000000)
  (H:Hq m M S [wdA wb V W,ltA b7 y,mvA b3 x])
  (K:∀ V1 M (E':Env),E'.get 0=lp wb→E'.get 3=lp b3→E'.get 5=.int .i64 (i:Nat)→E'.get 7=lp b7→E'.has 0=true→E'.has 3=true→E'.has 5=true→E'.has 7=true→V1.ok (W.cut k)→Hq m M S [wdA wb V1 (W.cut k),ltA b7 y,mvA b3 x]→Q .normal E' M)
  (e0:E.get 0=lp wb) (e3:E.get 3=lp b3) (e5:E.get 5=.int .i64 (i:Nat)) (e6:E.get 6=.int .i64 (k:Nat)) (e7:E.get 7=lp b7) (h0:E.has 0=true) (h3:E.has 3=true) (h5:E.has 5=true) (h6:E.has 6=true) (h7:E.has 7=true) :
  wpN Tryz.prog jV Q E M:=by
 have hc:=ji (H.at 0 rfl)
 have hrow:=LI (H.at 0 rfl)
 refine Exists.elim hrow.form fun oa hov=>Exists.elim hov fun oc hov=>?_
 rw [hov] at hrow
 refine RdS.cutK (by decide) hrow 0 k (by omega) (by omega) fun a1 c1 hcut1 hl1=>?_
 refine RdS.cutK (by decide) hrow (k+1) W.on.length (by omega) (by omega) fun a2 c2 hcut2 hl2=>?_
 have hz:((0:Nat):Int)=0:=rfl
 rw [hz] at hcut1
 have hk1:((k+1:Nat):Int)=(k:Nat)+1:=by omega
 rw [hk1] at hcut2
 simp (disch:=omega) only [go_sem,undef,e0,e3,e5,e6,e7,h0,h3,h5,h6,h7,hc,wdC,hov,hcut1,hcut2]
 refine qh H fun b M f H=>?_
 have hc:=ji (H.at 1 rfl)
 have H:Hq m M S [qv b (.cells (([]:List Value)++[]).toArray qw (0,0)),wdA wb V W,ltA b7 y,mvA b3 x]:=H
 have H:=Hq.cy (size:=51) (n:=0) (cap:=0) (xs:=[]) (tail:=[]) H rfl rfl
 have H:=Hq.wdS (H.sel 4 [1,0,2,3] rfl (by decide) (by decide))
 have H:Hq m M S [qv wb (.cells (wdC V W).toArray qm (0,0)),qK qW 1 V.cv V.cs.length (V.cs.flatMap cpL),zw cvA V.cs W.cores,qK qg 1 V.kv V.ks.length (V.ks.flatMap kpL),zw kvA V.ks W.kept,qK qw 51 V.ov W.on.length (W.on.flatMap Lt.cs),qK qw 51 (.slice (some ⟨b,0,none⟩) 0 0) 0 [],ltA b7 y,mvA b3 x]:=H
 rw [hov] at H
 simp (disch:=omega) only [go_sem,undef,e0,e3,e5,e6,e7,h0,h3,h5,h6,h7,hc,wdC,hov]
 have hle1:((W.on.take k).drop 0).length=k - 0:=by simp;omega
 have hle2:((W.on.take W.on.length).drop (k+1)).length=W.on.length - (k+1):=by simp
 refine Yz 6 (n:=0) (k:=k - 0) (xs:=[]) (news:=((W.on.take k).drop 0).flatMap Lt.cs) H rfl rfl (hl1 _ (Own.rds (by decide) Lt.len (H.at 5 rfl))) (by rw [jI Lt.len,hle1]) (Ug _) rfl (by omega) (by omega) fun w1 M f H=>?_
 have hc:=cell_of (H.at 0 rfl)
 have H:Hq m M S [qv wb (.cells (wdC V W).toArray qm (0,0)),qK qW 1 V.cv V.cs.length (V.cs.flatMap cpL),zw cvA V.cs W.cores,qK qg 1 V.kv V.ks.length (V.ks.flatMap kpL),zw kvA V.ks W.kept,qK qw 51 (.slice oa W.on.length oc) W.on.length (W.on.flatMap Lt.cs),qK qw 51 w1 (0+(k - 0)) ([]++((W.on.take k).drop 0).flatMap Lt.cs),ltA b7 y,mvA b3 x]:=H
 simp (disch:=omega) only [go_sem,undef,e0,e3,e5,e6,e7,h0,h3,h5,h6,h7,hc,wdC,hov]
 refine Yz 6 (n:=0+(k - 0)) (k:=W.on.length - (k+1)) (xs:=[]++((W.on.take k).drop 0).flatMap Lt.cs) (news:=((W.on.take W.on.length).drop (k+1)).flatMap Lt.cs) H rfl rfl (hl2 _ (Own.rds (by decide) Lt.len (H.at 5 rfl))) (by rw [jI Lt.len,hle2]) (Ug _) rfl (by omega) (by omega) fun w2 M f H=>?_
 have hc:=cell_of (H.at 0 rfl)
 have hon2:[]++((W.on.take k).drop 0).flatMap Lt.cs++((W.on.take W.on.length).drop (k+1)).flatMap Lt.cs=(W.on.eraseIdx k).flatMap Lt.cs:=by
  rw [List.eraseIdx_eq_take_drop_succ,List.flatMap_append];simp
 have hln2:0+(k - 0)+(W.on.length - (k+1))=(W.on.eraseIdx k).length:=by rw [List.length_eraseIdx,if_pos hk];omega
 have H:Hq m M S [qv wb (.cells (wdC V W).toArray qm (0,0)),qK qW 1 V.cv V.cs.length (V.cs.flatMap cpL),zw cvA V.cs W.cores,qK qg 1 V.kv V.ks.length (V.ks.flatMap kpL),zw kvA V.ks W.kept,qK qw 51 (.slice oa W.on.length oc) W.on.length (W.on.flatMap Lt.cs),qK qw 51 w2 (W.on.eraseIdx k).length ((W.on.eraseIdx k).flatMap Lt.cs),ltA b7 y,mvA b3 x]:=by
  rw [← hln2,← hon2];exact H
 refine Own.zA (H.at 6 rfl) fun wa wc ew=>?_
 have ew2:w2=.slice wa (W.on.eraseIdx k).length wc:=ew
 rw [ew2] at H ⊢
 simp (disch:=omega) only [go_sem,undef,e0,e3,e5,e6,e7,h0,h3,h5,h6,h7,hc,wdC]
 refine zG H fun M f H=>?_
 have H:Hq m M S (wdL wb { V with ov:=.slice wa (W.on.eraseIdx k).length wc } (W.cut k)++[ltA b7 y,mvA b3 x]):=H.sel 9 [0,1,2,3,4,6,7,8] rfl (by decide) (by decide)
 have H:=H.wdJ
 simp (disch:=omega) only [go_sem,undef,e0,e3,e5,e7,h0,h3,h5,h7]
 exact K { V with ov:=.slice wa (W.on.eraseIdx k).length wc } M _ rfl rfl rfl rfl rfl rfl rfl rfl ⟨hV.cs,hV.ks,hV.cores⟩ H
end Go.Fw
namespace Go.Fw
open Go.Proofs
variable {m m0 M:Mem} {S:List Nat} {L:List As}
variable {Q:Exit→Env→Mem→Prop} {E:Env} {wb i b3 b7 n:Nat} {V:Wv} {W:Wd} {C:Co} {x:Mv} {y:Lt}
theorem RN:∀ (vs:List (Nat×Ly)) (j:Nat) (v:Nat×Ly),(vs.set j v).flatMap cpL=(vs.flatMap cpL).set j (lp v.1)
 | [],_,_=>rfl
 | a::r,0,v=>rfl
 | a::r,j+1,v=>by
  rw [List.set_cons_succ,List.flatMap_cons,List.flatMap_cons,RN r j v]
  rfl
theorem qwd (vs:List (Nat×Ly)):(vs.flatMap cpL).length=vs.length:=by rw [jI (enc:=cpL) (k:=1) (fun _=>rfl),Nat.mul_one]
theorem mj:xW ⟨0,Dp.zero⟩:=by decide
abbrev pl7:NC:=.seq wz (.seq (.seq wq (.cond (.qq 142) (.seq vU .ret) .skip)) vT)
theorem qXo {k:List (List UInt8)} (hV:V.ok W) (hC:W.cores[i]?=some C) (hk:W.kept[i]?=some k) (hn3:n=3∨n=5∨n=7) (hi:i < n) (hnum:W.n=n) (hkl:k.length≤1000000∧∀ b∈k,b.length≤1099511627776)
  (H:Hq m M S (wdA wb V W::L))
  (K:plK m S L wb i (W.put i (Co.jc n i Dp.zero k)) Q)
  (e0:E.get 0=lp wb) (e5:E.get 5=.int .i64 (i:Nat)) (h0:E.has 0=true) (h5:E.has 5=true) :
  wpN Tryz.prog pl7 Q E M:=by
 have hil:=(List.getElem?_eq_some_iff.1 hC).1
 have hkl2:=(List.getElem?_eq_some_iff.1 hk).1
 have hl1:=hV.cs
 have hl2:=hV.ks
 refine Exists.elim (⟨V.ks[i]'(by omega),List.getElem?_eq_getElem (by omega)⟩:∃ v,V.ks[i]?=some v) fun kv hkv=>?_
 have hkr:=qzj (H.at 0 rfl)
 refine Exists.elim hkr.form fun ka hkf=>Exists.elim hkf fun kc hkf=>?_
 rw [hkf] at hkr
 have hbr:(kvA kv k).p M:=Tc (f:=kvA) (zy (H.at 0 rfl) (zw kvA V.ks W.kept) (by simp [wdL])) hkv hk
 refine RdS.elK hkr (show i < V.ks.length by omega) (by decide) fun bx o v' hv' hix hE=>?_
 have ev:v'=kv:=Option.some.inj (hv'.symm.trans hkv)
 subst ev
 have hp0:(kpL v')[0]?=some v'.1:=rfl
 have hc:=ji (H.at 0 rfl)
 have hz:[Value.int .i64 0,.int .i64 0,.int .i64 0,.int .i64 0,.int .i64 0,.int .i64 0,.int .i64 0]=dv Dp.zero:=rfl
 have hnew:=Gv n i hn3 hi Dp.zero mj M (v:=v'.1) (vs:=v'.2) (ls:=k) (Oa hbr) (gZ hbr) (fun j w b hw hb=>⟨qqF hbr hw hb,hkl.2 b (List.mem_of_getElem? hb)⟩) (by omega)
 show wpN Tryz.prog (.seq wz (.seq (.seq wq (.cond (.qq 142) (.seq vU .ret) .skip)) vT)) Q E M
 simp (disch:=omega) only [go_sem,undef,e0,e5,h0,h5,hc,wdC,hkf,hix,hE.ld0,hp0,hnum]
 refine xd H hnew fun u M A' hR f H=>?_
 refine Exists.elim hR fun cb hR=>Exists.elim hR fun Y' hR=>?_
 have hoY:=hR.1
 have eu:=hR.2.1
 have eA:=hR.2.2
 subst eu eA
 clear hR hnew hbr hix hE hkr hc
 simp (disch:=omega) only [go_sem,undef,e0,e5,h0,h5,Option.isNone_some]
 have H:=Hq.wdS (H.perm (List.Perm.swap ..))
 have H:Hq m M S (qv wb (.cells (wdC V W).toArray qm (0,0))::qK qW 1 V.cv V.cs.length (V.cs.flatMap cpL)::zw cvA V.cs W.cores::qK qg 1 V.kv V.ks.length (V.ks.flatMap kpL)::zw kvA V.ks W.kept::qK qw 51 V.ov W.on.length (W.on.flatMap Lt.cs)::coA cb Y' (Co.jc n i Dp.zero k)::L):=H
 have H:=(H.perm (List.Perm.swap ..))
 refine Own.Px (H.at 0 rfl) (show 0 < V.cs.length by omega) fun rb rcap rtail ecv hrb hrl=>?_
 have ecv:V.cv=.slice (some ⟨rb,0,none⟩) V.cs.length rcap:=ecv
 rw [ecv] at H
 have H:=H.toCell hrb
 have hw:cellAt (some (Obj.cells (wdC V W).toArray qm (0,0))) 1=some V.cv:=rfl
 have hxl:=qwd V.cs
 simp (disch:=omega) only [go_sem,undef,e0,e5,h0,h5,H.cs,wdC,ecv]
 refine zG H fun M f H=>?_
 rw [List.set_append_left _ _ (by omega)] at H
 have H:=Hq.cy (size:=1) (n:=V.cs.length) (cap:=rcap) H (by rw [List.length_set];omega) (by rw [List.length_append,List.length_set,← List.length_append];exact hrl)
 have ecs:(V.cs.flatMap cpL).set i (lp cb)=(V.cs.set i (cb,Y')).flatMap cpL:=(RN V.cs i (cb,Y')).symm
 rw [ecs] at H
 refine Exists.elim (cr hV hC) fun v hv=>?_
 have H:Hq m M S (zw cvA V.cs W.cores::coA cb Y' (Co.jc n i Dp.zero k)::qK qW 1 (.slice (some ⟨rb,0,none⟩) V.cs.length rcap) V.cs.length ((V.cs.set i (cb,Y')).flatMap cpL)::qv wb (.cells (wdC V W).toArray qm (0,0))::qK qg 1 V.kv V.ks.length (V.ks.flatMap kpL)::zw kvA V.ks W.kept::qK qw 51 V.ov W.on.length (W.on.flatMap Lt.cs)::L):=by
  rw [wdC,← ecv]
  rw [wdC,← ecv] at H
  refine H.perm (List.Perm.symm ?_)
  refine List.Perm.trans (List.perm_middle (l₁:=[_,_]) (a:=zw cvA V.cs W.cores)) (List.Perm.cons _ ?_)
  exact List.perm_middle (l₁:=[_,_,_,_,_]) (a:=coA cb Y' (Co.jc n i Dp.zero k))
 have H:=(Dq hv.1 hC H).tail
 have H:=H.perm (List.Perm.swap ..)
 have H:=tV (f:=cvA) (vs:=V.cs) (xs:=W.cores) (v:=(cb,Y')) (x:=Co.jc n i Dp.zero k) (by omega) hil H
 have hls:(V.cs.set i (cb,Y')).length=V.cs.length:=List.length_set
 have H:Hq m M S (wdL wb { V with cs:=V.cs.set i (cb,Y') } (W.put i (Co.jc n i Dp.zero k))++L):=by
  rw [← ecv,← hls] at H
  exact H.perm (((List.Perm.swap _ _ _).trans ((List.Perm.swap _ _ _).cons _)).trans (List.Perm.swap _ _ _)).symm
 have H:=H.wdJ
 simp (disch:=omega) only [go_sem,undef,e0,e5,h0,h5]
 exact K { V with cs:=V.cs.set i (cb,Y') } M _ rfl rfl rfl rfl (te hV hoY) H
end Go.Fw
namespace Go.Fw
open Go.Proofs
variable {m m0 M:Mem} {S:List Nat} {L:List As}
variable {Q:Exit→Env→Mem→Prop} {E:Env} {wb i b3 b7 n:Nat} {V:Wv} {W:Wd} {C:Co} {x:Mv} {y:Lt}
inductive Gi (x:Mv) (W:Wd):Wd→Nat→Prop
 | prop {i:Nat} {C:Co}:x.kind=1→W.cores[i]?=some C→Gi x W (W.put i (C.zm x.cmd).1) i
 | give {k i:Nat} {y:Lt} {C:Co} {b:Nat}:x.kind=2→W.on[k]?=some y→y.dst=(i:Nat)→W.cores[i]?=some C→Gi x W ((W.cut k).put i (C.take b y).1) i
 | lose {k i:Nat}:x.kind=3→k < W.on.length→i < W.n→Gi x W (W.cut k) i
 | dup {k i:Nat} {y:Lt} {C:Co} {b:Nat}:x.kind=4→W.on[k]?=some y→y.dst=(i:Nat)→W.cores[i]?=some C→Gi x W (W.put i (C.take b y).1) i
 | tick {i:Nat} {C:Co} {l:List (Int×Int)} {bs:List Nat}:x.kind=5→W.cores[i]?=some C→l.Perm (zS C.jq.lg)→Asc l→bs.length=l.length→Gi x W (W.put i (C.oH l bs)) i
 | recv {i:Nat} {C:Co}:x.kind=6→W.cores[i]?=some C→Gi x W (W.put i (C.recover x.inst).1) i
 | qqP {i:Nat} {C:Co} {k:List (List UInt8)}:x.kind=7→W.cores[i]?=some C→W.kept[i]?=some k→Gi x W (W.put i (Co.jc W.n i Dp.zero k)) i
 | none {i:Nat}:i < W.n→Gi x W W i
def Ply (x:Mv) (W W':Wd):Prop:=(W'=W∧W.on=[]∧2≤x.kind∧x.kind≤4)∨∃ W1 i,Gi x W W1 i∧W'=W1.drain i 300
def PlR (wb:Nat) (J:Wd→Prop) (u:Value) (A:As):Prop:=∃ W',J W'∧WdR wb W' (.bool true) u A
theorem qze (C:Co) (b:List UInt8):(C.rep b).recs=C.recs∧(C.rep b).out=C.out:=by
 unfold Co.rep Co.GG
 split
 ·unfold Co.note
  split<;>exact ⟨rfl,rfl⟩
 ·exact ⟨rfl,rfl⟩
theorem De:∀ (ls:List (List UInt8)) (C:Co),(ls.foldl Co.rep C).recs=C.recs∧(ls.foldl Co.rep C).out=C.out
 | [],C=>⟨rfl,rfl⟩
 | b::r,C=>⟨(De r (C.rep b)).1.trans (qze C b).1,(De r (C.rep b)).2.trans (qze C b).2⟩
theorem eK (n i:Nat) (d:Dp) (k:List (List UInt8)):(Co.jc n i d k).recs=[]∧(Co.jc n i d k).out=[]:=De k (Co.new n i d)
theorem ON (C:Co) (l:List (Int×Int)) (bs:List Nat) (hok:C.Ok):Sts C (C.oH l bs) (C.leads.length+256) (7*C.leads.length+1792) (C.leads.length+256):=by
 have hn:=hok.n
 have h1:=ar (C.leads.map Ld.id) C (by omega)
 have e1:(C.leads.map Ld.id).foldl Co.Qv C=C.jq:=rfl
 rw [e1,List.length_map] at h1
 have h2:=dE (l.zip bs) C.jq
 have e2:(l.zip bs).foldl (fun C p=>C.Jw p.2 p.1) C.jq=C.jq.kS l bs:=rfl
 rw [e2] at h2
 have hok2:=h2.ok (h1.ok hok)
 have hw:=hok2.wishes
 have h3:=DQ ((C.jq.kS l bs).wishes.map Wsh.id) (C.jq.kS l bs) (by have:=hok2.n;omega)
 have e3:((C.jq.kS l bs).wishes.map Wsh.id).foldl Co.ZF (C.jq.kS l bs)=C.oH l bs:=rfl
 rw [e3,List.length_map] at h3
 exact ((h1.trans h2).trans h3).up (by omega) (by omega) (by omega)
theorem PlG.kp (h:PlG W n) {i:Nat} (hi:i < n):∃ k,W.kept[i]?=some k∧k.length≤1000000:=by
 have h1:=h.kl
 exact ⟨W.kept[i]'(by omega),List.getElem?_eq_getElem (by omega),(h.ke _ (List.getElem_mem _)).1⟩
theorem PlG.ic (h:PlG W n) {i:Nat} {C:Co} (hC:W.cores[i]?=some C):i < n:=by
 have h1:=h.cl
 have:=(List.getElem?_eq_some_iff.1 hC).1
 omega
theorem PlG.cc (h:PlG W n) {i:Nat} (hi:i < n):∃ C,W.cores[i]?=some C:=by
 have h1:=h.cl
 exact ⟨W.cores[i]'(by omega),List.getElem?_eq_getElem (by omega)⟩
structure PlZ (W1:Wd) (i:Nat) (C1:Co) (k:List (List UInt8)):Prop where
 c:W1.cores[i]?=some C1
 kk:W1.kept[i]?=some k
 kl:k.length≤400000000
 rl:C1.recs.length≤400000000
 on:W1.on.length≤10000000
 ol:C1.out.length≤10000000
theorem PlG.qjI (h:PlG W n) {i:Nat} {C:Co} (hC:W.cores[i]?=some C) {W0:Wd} (hc:W0.cores=W.cores) (hk:W0.kept=W.kept) (ho:W0.on.length≤W.on.length) {C1:Co} (h1:C1.recs.length≤400000000) (h2:C1.out.length≤10000000):∃ C2 k,PlZ (W0.put i C1) i C2 k:=by
 obtain ⟨k,hk2,hkl⟩:=h.kp (h.ic hC)
 have:=h.on
 have hil:=(List.getElem?_eq_some_iff.1 hC).1
 exact ⟨C1,k,⟨by show (W0.cores.set i C1)[i]?=_;rw [hc];exact List.getElem?_set_self hil,by show W0.kept[i]?=_;rw [hk];exact hk2,by omega,h1,by show W0.on.length≤_;omega,h2⟩⟩
theorem PlG.same (h:PlG W n) {i:Nat} (hi:i < n) {W0:Wd} (hc:W0.cores=W.cores) (hk:W0.kept=W.kept) (ho:W0.on.length≤W.on.length):∃ C2 k,PlZ W0 i C2 k:=by
 obtain ⟨k,hk2,hkl⟩:=h.kp hi
 obtain ⟨C,hC⟩:=h.cc hi
 have:=h.on
 have hg:=h.co i C hC
 have g1:=hg.recs
 have g2:=hg.out
 exact ⟨C,k,⟨by rw [hc];exact hC,by rw [hk];exact hk2,by omega,by omega,by omega,by omega⟩⟩
theorem CoG.stp (hg:CoG C n i) {C1:Co} {a b c:Nat} (hs:Sts C C1 a b c) (ha:a≤100000) (hb:b≤1000000):C1.recs.length≤400000000∧C1.out.length≤10000000:=by
 have h1:=hg.recs
 have h2:=hg.out
 have s1:=hs.sz.recs
 have s2:=hs.sz.out
 exact ⟨by omega,by omega⟩
theorem NI (W:Wd) (k:Nat):(W.cut k).on.length≤W.on.length:=by
 show (W.on.eraseIdx _).length≤_
 rw [List.length_eraseIdx]
 split<;>omega
theorem qXl (h:PlG W n) {W1:Wd} (hp:Gi x W W1 i):∃ C1 k,PlZ W1 i C1 k:=by
 cases hp with
 | prop _ hC =>
  have hg:=h.co _ _ hC
  have hn:=hg.ok.n
  have hb:=hg.stp (mE _ x.cmd) (by omega) (by omega)
  exact h.qjI hC rfl rfl (Nat.le_refl _) hb.1 hb.2
 | give _ hy _ hC =>
  have hg:=h.co _ _ hC
  have hn:=hg.ok.n
  have hb:=fun b y=>hg.stp (oI _ b y (by omega)) (by omega) (by omega)
  exact h.qjI (W0:=W.cut _) hC rfl rfl (NI ..) (hb _ _).1 (hb _ _).2
 | lose _ _ hi=>exact h.same (by rw [← h.num];exact hi) rfl rfl (NI ..)
 | dup _ _ _ hC =>
  have hg:=h.co _ _ hC
  have hn:=hg.ok.n
  have hb:=fun b y=>hg.stp (oI _ b y (by omega)) (by omega) (by omega)
  exact h.qjI hC rfl rfl (Nat.le_refl _) (hb _ _).1 (hb _ _).2
 | tick _ hC _ _ _ =>
  have hg:=h.co _ _ hC
  have hl:=hg.leads
  have hb:=fun l bs=>hg.stp (ON _ l bs hg.ok) (by omega) (by omega)
  exact h.qjI hC rfl rfl (Nat.le_refl _) (hb _ _).1 (hb _ _).2
 | recv _ hC =>
  have hg:=h.co _ _ hC
  have hn:=hg.ok.n
  have hb:=hg.stp (Vp _ x.inst) (by omega) (by omega)
  exact h.qjI hC rfl rfl (Nat.le_refl _) hb.1 hb.2
 | qqP _ hC _=>exact h.qjI hC rfl rfl (Nat.le_refl _) (by rw [(eK ..).1];exact Nat.zero_le _) (by rw [(eK ..).2];exact Nat.zero_le _)
 | none hi=>exact h.same (by rw [← h.num];exact hi) rfl rfl (Nat.le_refl _)
abbrev plZ:NC:=.seq XR (.seq XP .ret)
abbrev plQ (m:Mem) (wb:Nat) (V:Wv) (W:Wd) (J:Wd→Prop):Exit→Env→Mem→Prop:=vL [.qq 4] fun u M=>∃ A',PlR wb J u A'∧A'.p M∧Fr m M (wdA wb V W).wp∧(∀ b∈A'.fp,b∈(wdA wb V W).fp∨m b=none)∧∀ b∈A'.wp,b∈(wdA wb V W).wp∨m b=none
theorem qvK {W1:Wd} {V1:Wv} {J:Wd→Prop} {C1:Co} {k:List (List UInt8)} (hV:V1.ok W1) (hz:PlZ W1 i C1 k) (hJ:J (W1.drain i 300))
  (H:Hq m M (wdA wb V W).wp (wdA wb V1 W1::L)) (e0:E.get 0=lp wb) (e5:E.get 5=.int .i64 (i:Nat)) (h0:E.has 0=true) (h5:E.has 5=true) :
  wpN Tryz.prog plZ (plQ m wb V W J) E M:=by
 simp (disch:=omega) only [go_sem,undef,e0,e5,h0,h5]
 refine jb H (qZX (H.at 0 rfl) hV i 300 hz.c hz.kk hz.kl hz.rl hz.on hz.ol) fun u M A' hR f H=>?_
 refine hR.E fun V2 eu hoV eA=>?_
 subst eu eA
 simp (disch:=omega) only [go_sem,undef]
 exact ⟨_,⟨_,hJ,rfl,_,hoV,rfl⟩,H.hs.1,H.fr,fun b hb=>by rw [OE];rw [OE] at hb;exact H.done.2.2 b hb,H.done.2.2⟩
end Go.Fw
namespace Go.Fw
open Go.Proofs
variable {m m0 M:Mem} {S:List Nat} {L:List As}
variable {Q:Exit→Env→Mem→Prop} {E:Env} {wb i b3 b7 n:Nat} {V:Wv} {W:Wd} {C:Co} {x:Mv} {y:Lt}
abbrev plD:NC:=.seq (.seq wZ (.cond (.qq 52) (.seq wQ .ret) .skip)) (.seq wy (.seq (.seq ww (.cond (.qq 62) jV .skip)) (.seq jK (.cond (.qq 84) (.seq zp zk) .skip))))
abbrev qQx:NC:=.seq jK (.cond (.qq 84) (.seq zp zk) .skip)
abbrev plE:NC:=.seq wk (.cond (.qq 96) jX (.seq wx (.cond (.qq 106) jJ (.seq wj (.cond (.qq 118) pl7 .skip)))))
abbrev plC:NC:=.seq yH (.cond (.qq 35) jf (.seq (.seq yG (.cond (.qq 47) .skip (.seq yF (.cond (.qq 47) .skip wJ)))) (.cond (.qq 47) plD plE)))
abbrev plB:NC:=.seq (.seq yI (.block 0 plC)) plZ
theorem qjS:QT=.seq KP (.seq KO (.seq KN (.seq (.seq KM (.cond (.qq 23) KL .skip)) plB))):=rfl
theorem qzs {W0:Wd} {i0:Nat} (hV:V.ok W0) (hC:W0.cores[i]?=some C) (hf:C.Fit) (hy:y.dst=(i:Nat))
  (H:Hq m M S [wdA wb V W0,ltA b7 y,mvA b3 x])
  (K2:∀ b,plK m S [ltA b7 y,mvA b3 x] wb i (W0.put i (C.take b y).1) Q) (hk:x.kind≠3)
  (e0:E.get 0=lp wb) (e3:E.get 3=lp b3) (e5:E.get 5=.int .i64 (i0:Nat)) (e7:E.get 7=lp b7) (h0:E.has 0=true) (h3:E.has 3=true) (h5:E.has 5=true) (h7:E.has 7=true) :
  wpN Tryz.prog qQx Q E M:=by
 have hcx:=cell_of (H.at 2 rfl)
 have hcy:=cell_of (H.at 1 rfl)
 show wpN Tryz.prog (.seq jK (.cond (.qq 84) (.seq zp zk) .skip)) Q E M
 generalize hT:zk=T
 simp (disch:=omega) only [go_sem,undef,e0,e3,e5,e7,h0,h3,h5,h7,hcx,hcy,qX hk,hy]
 subst hT
 exact qQq hV hC hf H K2 rfl rfl rfl rfl rfl rfl
theorem qvW {W0:Wd} (hV:V.ok W0)
  (H:Hq m M S [wdA wb V W0,ltA b7 y,mvA b3 x])
  (K2:plK m S [ltA b7 y,mvA b3 x] wb i W0 Q) (hk:x.kind=3)
  (e0:E.get 0=lp wb) (e3:E.get 3=lp b3) (e5:E.get 5=.int .i64 (i:Nat)) (e7:E.get 7=lp b7) (h0:E.has 0=true) (h3:E.has 3=true) (h5:E.has 5=true) (h7:E.has 7=true) :
  wpN Tryz.prog qQx Q E M:=by
 have hcx:=cell_of (H.at 2 rfl)
 have hcy:=cell_of (H.at 1 rfl)
 show wpN Tryz.prog (.seq jK (.cond (.qq 84) (.seq zp zk) .skip)) Q E M
 generalize hT:(NC.seq zp zk)=T
 simp (disch:=omega) only [go_sem,undef,e0,e3,e5,e7,h0,h3,h5,h7,hcx,hcy,qZ (show ¬ x.kind≠3 from fun h=>h hk)]
 exact K2 V M _ rfl rfl rfl rfl hV H
abbrev qXt (x:Mv) (W:Wd) (m:Mem) (S:List Nat) (wb:Nat) (Q:Exit→Env→Mem→Prop):Prop:=∀ W1 i1 L1,Gi x W W1 i1→plK m S L1 wb i1 W1 Q
theorem Uy {k:Int} (hV:V.ok W) (hg:PlG W n) (hi:i < n) (hk:x.kind=2∨x.kind=3∨x.kind=4) (hkk:(W.on=[]∧k = -1)∨(0≤k∧k < W.on.length))
  (H:Hq m M S [wdA wb V W,mvA b3 x])
  (K0:W.on=[]→∀ M (E':Env),E'.get 4=.bool true→E'.has 4=true→Hq m M S [wdA wb V W,mvA b3 x]→Q .ret E' M)
  (K:qXt x W m S wb Q)
  (e0:E.get 0=lp wb) (e3:E.get 3=lp b3) (e5:E.get 5=.int .i64 (i:Nat)) (e6:E.get 6=.int .i64 k) (h0:E.has 0=true) (h3:E.has 3=true) (h5:E.has 5=true) (h6:E.has 6=true) :
  wpN Tryz.prog plD Q E M:=by
 have hnum:=hg.num
 have hon:=hg.on
 show wpN Tryz.prog (.seq (.seq wZ (.cond (.qq 52) (.seq wQ .ret) .skip)) (.seq wy (.seq (.seq ww (.cond (.qq 62) jV .skip)) qQx))) Q E M
 generalize hT:qQx=T
 generalize hT2:jV=T2
 rcases hkk with ⟨ho,rfl⟩ | ⟨hk0,hk1⟩
 ·simp (disch:=omega) only [go_sem,undef,e0,e3,e5,e6,h0,h3,h5,h6]
  exact K0 ho M _ rfl rfl H
 ·refine Exists.elim (⟨k.toNat,by omega⟩:∃ j:Nat,k=(j:Nat)) fun j hj=>?_
  subst hj
  have hjl:j < W.on.length:=by omega
  have hrow:=LI (H.at 0 rfl)
  refine Exists.elim hrow.form fun oa hov=>Exists.elim hov fun oc hov=>?_
  rw [hov] at hrow
  refine RdS.elK hrow hjl (by decide) fun bx o y hy hix hE=>?_
  have hlda0:=hE.uZ 51 (by decide) (by decide)
  have hds:=hg.dst y (List.mem_of_getElem? hy)
  refine Exists.elim hds fun d hd=>?_
  have hdl:=hd.1
  have hdy:=hd.2
  refine Exists.elim (hg.cc hdl) fun C hC=>?_
  have hgC:=hg.co d C hC
  have g1:=hgC.recs
  have g2:=hgC.out
  have g3:=hgC.leads
  have hf:=hgC.ok.fit (by omega) (by omega) (by omega)
  have hc:=ji (H.at 0 rfl)
  have hcx:=cell_of (H.at 1 rfl)
  simp (disch:=omega) only [go_sem,undef,e0,e3,e5,e6,h0,h3,h5,h6,hc,wdC,hov,hix,hlda0,qZ (show ¬ ((j:Nat):Int) < 0 by omega)]
  refine qh H fun b7 M f H=>?_
  have hcx:=cell_of (H.at 2 rfl)
  simp (disch:=omega) only [go_sem,undef,e0,e3,e5,e6,h0,h3,h5,h6,H.cs,hcx]
  refine qs H rfl rfl fun M f H=>?_
  have H:Hq m M S [ltA b7 y,wdA wb V W,mvA b3 x]:=H
  have H:=H.perm (List.Perm.swap ..)
  have hcx:=cell_of (H.at 2 rfl)
  by_cases hk4:x.kind=4
  ·simp (disch:=omega) only [go_sem,undef,e0,e3,e5,e6,h0,h3,h5,h6,hcx,qZ (show ¬ x.kind≠4 from fun h=>h hk4)]
   subst hT
   exact qzs hV hC hf hdy H (fun b=>K _ d _ (.dup hk4 hy hdy hC)) (by omega) rfl rfl rfl rfl rfl rfl rfl rfl
  ·simp (disch:=omega) only [go_sem,undef,e0,e3,e5,e6,h0,h3,h5,h6,hcx,qX (show x.kind≠4 from hk4)]
   subst hT2
   refine qQz hV hjl hon H (fun V1 M E' g0 g3 g5 g7 k0 k3 k5 k7 hV1 H=>?_) rfl rfl rfl rfl rfl rfl rfl rfl rfl rfl
   subst hT
   by_cases hk3:x.kind=3
   ·exact qvW hV1 H (K _ i _ (.lose hk3 hjl (by rw [hnum];exact hi))) hk3 g0 g3 g5 g7 k0 k3 k5 k7
   ·exact qzs (C:=C) hV1 hC hf hdy H (fun b=>K _ d _ (.give (by omega) hy hdy hC)) hk3 g0 g3 g5 g7 k0 k3 k5 k7
theorem qXn (hV:V.ok W) (hg:PlG W n) (hi:i < n)
  (H:Hq m M S [wdA wb V W,mvA b3 x])
  (K:qXt x W m S wb Q)
  (e0:E.get 0=lp wb) (e3:E.get 3=lp b3) (e5:E.get 5=.int .i64 (i:Nat)) (e34:E.get 34=.int .i64 x.kind) (h0:E.has 0=true) (h3:E.has 3=true) (h5:E.has 5=true) (h34:E.has 34=true) :
  wpN Tryz.prog plE Q E M:=by
 have hnum:=hg.num
 refine Exists.elim (hg.cc hi) fun C hC=>?_
 have hgC:=hg.co i C hC
 refine Exists.elim (hg.kp hi) fun k hk=>?_
 have hke:=hg.ke k (List.mem_of_getElem? hk.1)
 show wpN Tryz.prog (.seq wk (.cond (.qq 96) jX (.seq wx (.cond (.qq 106) jJ (.seq wj (.cond (.qq 118) pl7 .skip)))))) Q E M
 generalize hT5:jX=T5
 generalize hT6:jJ=T6
 generalize hT7:pl7=T7
 by_cases h5k:x.kind=5
 ·simp (disch:=omega) only [go_sem,undef,e0,e3,e5,e34,h0,h3,h5,h34,qX h5k]
  subst hT5
  exact qXr hV hC hgC H (fun l' bs hp ha hb=>K _ i _ (.tick h5k hC hp ha hb)) rfl rfl rfl rfl
 ·by_cases h6k:x.kind=6
  ·simp (disch:=omega) only [go_sem,undef,e0,e3,e5,e34,h0,h3,h5,h34,qZ h5k,qX h6k]
   subst hT6
   exact qXp hV hC hgC H (K _ i _ (.recv h6k hC)) rfl rfl rfl rfl rfl rfl
  ·by_cases h7k:x.kind=7
   ·simp (disch:=omega) only [go_sem,undef,e0,e3,e5,e34,h0,h3,h5,h34,qZ h5k,qZ h6k,qX h7k]
    subst hT7
    have K2:=K _ i [mvA b3 x] (.qqP h7k hC hk.1)
    rw [hnum] at K2
    exact qXo hV hC hk.1 hg.n3 hi hnum hke H K2 rfl rfl rfl rfl
   ·simp (disch:=omega) only [go_sem,undef,e0,e3,e5,e34,h0,h3,h5,h34,qZ h5k,qZ h6k,qZ h7k]
    exact K W i _ (.none (by rw [hnum];exact hi)) V M _ rfl rfl rfl rfl hV H
theorem qvV {J:Wd→Prop} {k:Int} (hV:V.ok W) (hg:PlG W n) (hi:i < n) (hkk:(W.on=[]∧k = -1)∨(0≤k∧k < W.on.length)) (hJ:∀ W',Ply x W W'→J W')
  (H:Hq m M (wdA wb V W).wp [wdA wb V W,mvA b3 x])
  (e0:E.get 0=lp wb) (e3:E.get 3=lp b3) (e5:E.get 5=.int .i64 (i:Nat)) (e6:E.get 6=.int .i64 k) (h0:E.has 0=true) (h3:E.has 3=true) (h5:E.has 5=true) (h6:E.has 6=true) :
  wpN Tryz.prog plB (plQ m wb V W J) E M:=by
 refine Exists.elim (hg.cc hi) fun C hC=>?_
 have hgC:=hg.co i C hC
 have hcx:=cell_of (H.at 1 rfl)
 have hK:qXt x W m (wdA wb V W).wp wb fun e E M=>match e with | .normal=>wpN Tryz.prog plZ (plQ m wb V W J) E M | _=>plQ m wb V W J e E M:=fun W1 i1 L1 hp V1 M E' g0 g5 k0 k5 hV1 H=>by
  refine Exists.elim (qXl hg hp) fun C1 hz=>Exists.elim hz fun k1 hz=>?_
  exact qvK hV1 hz (hJ _ (.inr ⟨W1,i1,hp,rfl⟩)) H g0 g5 k0 k5
 have hRet:W.on=[]→2≤x.kind∧x.kind≤4→∀ M (E':Env),E'.get 4=.bool true→E'.has 4=true→Hq m M (wdA wb V W).wp [wdA wb V W,mvA b3 x]→plQ m wb V W J .ret E' M:=fun ho h24 M E' g4 k4 H=>by
  simp (disch:=omega) only [go_sem,undef,g4,k4]
  exact ⟨_,⟨_,hJ _ (.inl ⟨rfl,ho,h24.1,h24.2⟩),rfl,_,hV,rfl⟩,H.hs.1,H.fr,fun b hb=>.inl hb,fun b hb=>.inl hb⟩
 show wpN Tryz.prog (.seq (.seq yI (.block 0 (.seq yH (.cond (.qq 35) jf (.seq (.seq yG (.cond (.qq 47) .skip (.seq yF (.cond (.qq 47) .skip wJ)))) (.cond (.qq 47) plD plE)))))) plZ) _ E M
 generalize hTZ:plZ=TZ at *
 generalize hQ:plQ m wb V W J=Q0 at *
 generalize hT1:jf=T1
 generalize hTD:plD=TD
 generalize hTE:plE=TE
 by_cases h1:x.kind=1
 ·simp (disch:=omega) only [go_sem,undef,e0,e3,e5,e6,h0,h3,h5,h6,hcx,qX h1]
  subst hT1
  exact qXs hV hC hgC H (hK _ i _ (.prop h1 hC)) rfl rfl rfl rfl rfl rfl
 ·by_cases h2:x.kind=2
  ·simp (disch:=omega) only [go_sem,undef,e0,e3,e5,e6,h0,h3,h5,h6,hcx,qZ h1,qX h2]
   subst hTD
   exact Uy hV hg hi (.inl h2) hkk H (fun ho=>hRet ho (by omega)) hK rfl rfl rfl rfl rfl rfl rfl rfl
  ·by_cases h3k:x.kind=3
   ·simp (disch:=omega) only [go_sem,undef,e0,e3,e5,e6,h0,h3,h5,h6,hcx,qZ h1,qZ h2,qX h3k]
    subst hTD
    exact Uy hV hg hi (.inr (.inl h3k)) hkk H (fun ho=>hRet ho (by omega)) hK rfl rfl rfl rfl rfl rfl rfl rfl
   ·by_cases h4:x.kind=4
    ·simp (disch:=omega) only [go_sem,undef,e0,e3,e5,e6,h0,h3,h5,h6,hcx,qZ h1,qZ h2,qZ h3k,qX h4]
     subst hTD
     exact Uy hV hg hi (.inr (.inr h4)) hkk H (fun ho=>hRet ho (by omega)) hK rfl rfl rfl rfl rfl rfl rfl rfl
    ·simp (disch:=omega) only [go_sem,undef,e0,e3,e5,e6,h0,h3,h5,h6,hcx,qZ h1,qZ h2,qZ h3k,qZ h4]
     subst hTE
     exact qXn hV hg hi H hK rfl rfl rfl rfl rfl rfl rfl rfl
end Go.Fw
namespace Go.Fw
open Go.Proofs
variable {m m0 M:Mem} {S:List Nat} {L:List As}
variable {wb n:Nat} {V:Wv} {W:Wd} {x:Mv}
theorem qXm (h:(wdA wb V W).p m) (hV:V.ok W) (hg:PlG W n) (x:Mv) (hw:I64 x.who) (hn:I64 x.num) :
  CM Tryz.prog nh [lp wb,x.v] m (wdA wb V W) (PlR wb (Ply x W)):=by
 have H:=Hq.one h
 have hnum:=hg.num
 have hon:=hg.on
 have hn3:=hg.n3
 have hrow:=LI (H.at 0 rfl)
 refine Exists.elim hrow.form fun oa hov=>Exists.elim hov fun oc hov=>?_
 refine iN (by simp [Tryz.f33]) ?_
 rw [qjS]
 generalize hT:plB=T
 simp (disch:=omega) only [go_sem,undef]
 refine qh H fun b3 M f H=>?_
 have H:=H.perm (List.Perm.swap ..)
 have hc:=ji (H.at 0 rfl)
 have hcx:=cell_of (H.at 1 rfl)
 simp (disch:=omega) only [go_sem,undef,hc,wdC,hcx,hnum]
 refine GV H (aO x.who 0 ((n:Nat) - 1) (by omega) hw (by decide) (by omega)) fun u M hR f H=>?_
 refine Exists.elim hR fun r hr=>?_
 have eu:=hr.1
 subst eu
 refine Exists.elim (⟨r.toNat,by omega⟩:∃ i:Nat,r=(i:Nat)) fun i hi=>?_
 subst hi
 have hin:i < n:=by omega
 have hc:=ji (H.at 0 rfl)
 have hcx:=cell_of (H.at 1 rfl)
 by_cases ho:W.on=[]
 ·have hl:W.on.length=0:=by rw [ho];rfl
  simp (disch:=omega) only [go_sem,undef,hc,wdC,hov,qZ (show ¬ ((W.on.length:Nat):Int) > 0 by omega)]
  subst hT
  exact qvV hV hg hin (.inl ⟨ho,rfl⟩) (fun W' hp=>hp) H rfl rfl rfl rfl rfl rfl rfl rfl
 ·have hl:0 < W.on.length:=List.length_pos_iff.2 ho
  simp (disch:=omega) only [go_sem,undef,hc,wdC,hcx,hov,qX (show ((W.on.length:Nat):Int) > 0 by omega)]
  refine GV H (aO x.num 0 ((W.on.length:Nat) - 1) (by omega) hn (by decide) (by omega)) fun u M hR2 f H=>?_
  refine Exists.elim hR2 fun k hk=>?_
  have eu:=hk.1
  subst eu
  simp (disch:=omega) only [go_sem,undef]
  subst hT
  exact qvV hV hg hin (.inr ⟨hk.2.1,by omega⟩) (fun W' hp=>hp) H rfl rfl rfl rfl rfl rfl rfl rfl
end Go.Fw
