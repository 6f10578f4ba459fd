import Derived.Test.YtimedjfpihdffaaGreatCsX
import Derived.Test.YtimedjfpihdffaaGreatCqY
set_option linter.unusedVariables false
set_option linter.unusedSimpArgs false
set_option maxHeartbeats 16000000
namespace Go.Fw
open Go
structure Mv where
 kind:Int
 who:Int
 num:Int
 cmd:Cmd
 inst:Int×Int
 deriving DecidableEq
def Mv.cs(a:Mv):List Value:=[.int .i64 a.kind]++([.int .i64 a.who]++([.int .i64 a.num]++(a.cmd.cs++(pc a.inst))))
abbrev Mv.v(a:Mv):Value:=.agg a.cs.toArray
theorem Mv.len(a:Mv):a.cs.length=12:=rfl
theorem Mv.all(a:Mv):a.cs.take 12=a.cs:=rfl
theorem Mv.KA(a:Mv):(a.cs.drop 0).take 12=a.cs:=rfl
theorem Mv.vO(a:Mv):lay a.cs [] []=some a.cs:=rfl
theorem Mv.Wg(a b:Mv):lay a.cs [(0,12)] [.agg b.cs.toArray]=some b.cs:=rfl
theorem Mv.g0(a:Mv):a.cs[0]?=some (.int .i64 a.kind):=rfl
theorem Mv.s0(a:Mv)(x:Int):a.cs.set 0 (.int .i64 x)=({ a with kind:=x }:Mv).cs:=rfl
theorem Mv.g1(a:Mv):a.cs[1]?=some (.int .i64 a.who):=rfl
theorem Mv.s1(a:Mv)(x:Int):a.cs.set 1 (.int .i64 x)=({ a with who:=x }:Mv).cs:=rfl
theorem Mv.g2(a:Mv):a.cs[2]?=some (.int .i64 a.num):=rfl
theorem Mv.s2(a:Mv)(x:Int):a.cs.set 2 (.int .i64 x)=({ a with num:=x }:Mv).cs:=rfl
theorem Mv.g3(a:Mv):a.cs[3]?=some (.int .i64 a.cmd.kind):=rfl
theorem Mv.g4(a:Mv):a.cs[4]?=some (.int .i64 a.cmd.client):=rfl
theorem Mv.g5(a:Mv):a.cs[5]?=some (.int .i64 a.cmd.seq):=rfl
theorem Mv.g6(a:Mv):a.cs[6]?=some (.string a.cmd.key):=rfl
theorem Mv.g7(a:Mv):a.cs[7]?=some (.string a.cmd.fin):=rfl
theorem Mv.g8(a:Mv):a.cs[8]?=some (.string a.cmd.old):=rfl
theorem Mv.g9(a:Mv):a.cs[9]?=some (.string a.cmd.val):=rfl
theorem Mv.Qg(a:Mv):(a.cs.drop 3).take 7=a.cmd.cs:=rfl
theorem Mv.VS(a:Mv)(x:Cmd):a.cs.take 3++(x.cs++a.cs.drop 10)=({ a with cmd:=x }:Mv).cs:=rfl
theorem Mv.g10(a:Mv):a.cs[10]?=some (.int .i64 a.inst.1):=rfl
theorem Mv.g11(a:Mv):a.cs[11]?=some (.int .i64 a.inst.2):=rfl
theorem Mv.s10(a:Mv)(x:Int):a.cs.set 10 (.int .i64 x)=({ a with inst:=(x,a.inst.2) }:Mv).cs:=rfl
theorem Mv.s11(a:Mv)(x:Int):a.cs.set 11 (.int .i64 x)=({ a with inst:=(a.inst.1,x) }:Mv).cs:=rfl
theorem Mv.Bt(a:Mv):(a.cs.drop 10).take 2=pc a.inst:=rfl
theorem Mv.CY(a:Mv)(x:Int×Int):a.cs.take 10++(pc x++a.cs.drop 12)=({ a with inst:=x }:Mv).cs:=rfl
abbrev Mv.zero:Mv:=⟨0,0,0,Cmd.zero,(0,0)⟩
theorem Mv.one(a:Mv):a.cs.all Value.oneCell'=true:=rfl
theorem Mv_fa:Value.agg (List.toArray [.int .i64 0,.int .i64 0,.int .i64 0,.int .i64 0,.int .i64 0,.int .i64 0,.string noB,.string noB,.string noB,.string noB,.int .i64 0,.int .i64 0])=.agg (Mv.zero.cs).toArray:=rfl
theorem Mv_fl(ps:List (Nat×Nat))(vs:List Value):lay [.int .i64 0,.int .i64 0,.int .i64 0,.int .i64 0,.int .i64 0,.int .i64 0,.string noB,.string noB,.string noB,.string noB,.int .i64 0,.int .i64 0] ps vs=lay (Mv.zero.cs) ps vs:=rfl
theorem Mv_fc(t:TypeId)(fr:Nat×Nat):Obj.cells (List.toArray [.int .i64 0,.int .i64 0,.int .i64 0,.int .i64 0,.int .i64 0,.int .i64 0,.string noB,.string noB,.string noB,.string noB,.int .i64 0,.int .i64 0]) t fr=.cells (Mv.zero.cs).toArray t fr:=rfl
attribute [go_sem ↓] Mv_fa Mv_fl Mv_fc
attribute [go_sem] Mv.len Mv.all Mv.KA Mv.vO Mv.Wg Mv.g0 Mv.s0 Mv.g1 Mv.s1 Mv.g2 Mv.s2 Mv.g3 Mv.g4 Mv.g5 Mv.g6 Mv.g7 Mv.g8 Mv.g9 Mv.Qg Mv.VS Mv.g10 Mv.g11 Mv.s10 Mv.s11 Mv.Bt Mv.CY Mv.one
end Go.Fw
namespace Go.Fw
open Go.Proofs
variable {m m0 M:Mem} {S:List Nat} {L:List As}
theorem YN{V:Wv}{W:Wd}(ho:V.ok W){j:Nat}{C:Co}(hC:W.cores[j]?=some C):∃ v,V.cs[j]?=some v∧v.2.ok C:=by
 have h:=(List.getElem?_eq_some_iff.1 hC).1
 have h1:=ho.cs
 exact ⟨V.cs[j]'(by omega),List.getElem?_eq_getElem (by omega),ho.cores j _ C (List.getElem?_eq_getElem (by omega)) hC⟩
abbrev I64(n:Int):Prop:=-9223372036854775808≤n∧n≤9223372036854775807
theorem oG(n lo hi:Int)(h:lo≤hi)(hn:I64 n)(h1 : -1000000000000≤lo)(h2:hi≤1000000000000):MC Tryz.prog Fc [.int .i64 n,.int .i64 lo,.int .i64 hi] m λv M=>(∃ r,v=.int .i64 r∧lo≤r∧r≤hi)∧Fr m M []:=by
 refine Eo (by simp [Tryz.f33]) ?_
 have hd:0 < hi - lo+1:=by omega
 have e1:=Int.tmod_lt_of_pos n hd
 have e2 : -(hi - lo+1) < n.tmod (hi - lo+1):=by
  have:=Int.lt_tmod_of_pos n hd
  omega
 have H:=Hq.refl m []
 simp (disch:=omega) only [go_sem,undef,lL]
 generalize n.tmod (hi - lo+1)=q at *
 refine bT (λh3=>?_) (λh3=>?_)
 ·simp (disch:=omega) only [go_sem,undef]
  exact ⟨⟨_,rfl,by omega,by omega⟩,H.fr⟩
 ·simp (disch:=omega) only [go_sem,undef]
  exact ⟨⟨_,rfl,by omega,by omega⟩,H.fr⟩
abbrev plK(m:Mem)(S:List Nat)(L:List As)(wb i:Nat)(W1:Wd)(Q:Exit→Env→Mem→Prop):Prop :=
 ∀ V1 M (E':Env),E'.get 0=lp wb→E'.get 5=.int .i64 (i:Nat)→E'.has 0=true→E'.has 5=true→V1.ok W1→Hq m M S (wdA wb V1 W1::L)→Q .normal E' M
variable {Q:Exit→Env→Mem→Prop} {E:Env} {wb i b3 n:Nat} {V:Wv} {W:Wd} {C:Co} {x:Mv}
abbrev mvA(b:Nat)(x:Mv):As:=qw b (.cells x.cs.toArray Mw (0,0))
end Go.Fw
namespace Go.Fw
open Go.Proofs
variable {m m0 M:Mem} {S:List Nat} {L:List As}
variable {Q:Exit→Env→Mem→Prop} {E:Env} {wb i b3 b7 n:Nat} {V:Wv} {W:Wd} {C:Co} {x:Mv} {y:Lt}
theorem RdS.cutK{α:Type}{G:Prop}{k:Nat}{enc:α→List Value}{a:Option Addr}{c:Nat}{l:List α}(k0:0 < k)(h:RdS k enc m (.slice a l.length c) l)(lo hi:Nat)(h1:lo≤hi)(h2:hi≤l.length)(K:∀ a' c',xG k a c lo hi=some (.slice a' (hi - lo) c')→(∀ M,RdS k enc M (.slice a l.length c) l→ldS M a' ((hi - lo)*k)=some (((l.take hi).drop lo).flatMap enc))→G):G:=by
 obtain ⟨a',c',e,hr,_⟩:=RdS.cut k0 h lo hi h1 h2
 refine K a' c' e λM hM=>?_
 obtain ⟨a2,c2,e2,hr2,_⟩:=RdS.cut k0 hM lo hi h1 h2
 rw [e] at e2
 injection Option.some.inj e2 with ea _ ec
 subst ea ec
 have hl:((l.take hi).drop lo).length=hi - lo:=by simp;omega
 rw [← hl] at hr2
 have:=cC hr2
 rw [hl] at this
 exact this
abbrev ltA(b:Nat)(y:Lt):As:=qw b (.cells y.cs.toArray qv (0,0))
theorem qvE(hV:V.ok W)(hC:W.cores[i]?=some C)(hf:C.Fit)(H:Hq m M S (wdA wb V W::ltA b7 y::L))(K:∀ b,plK m S (ltA b7 y::L) wb i (W.put i (C.take b y).1) Q)(e0:E.get 0=lp wb)(e5:E.get 5=.int .i64 (i:Nat))(e7:E.get 7=lp b7)(h0:E.has 0=true)(h5:E.has 5=true)(h7:E.has 7=true) :
  wpN Tryz.prog zo Q E M:=by
 refine Exists.elim (YN hV hC) λv hv=>?_
 have hcr:=Qf (H.at 0 rfl)
 refine Exists.elim hcr.form λca hcv=>Exists.elim hcv λcc hcv=>?_
 rw [hcv] at hcr
 have hvl:=(List.getElem?_eq_some_iff.1 hv.1).1
 refine RdS.elK hcr hvl (by decide) λbx o v' hv' hix hE=>?_
 have ev:v'=v:=Option.some.inj (hv'.symm.trans hv.1)
 subst ev
 have hp0:(cpL v')[0]?=some (lp v'.1):=rfl
 have hpr:=λM (hA:(coA v'.1 v'.2 C).p M)=>uJ hA hv.2 hf y
 have hc:=qM (H.at 0 rfl)
 have hcy:=cell_of (H.at 1 rfl)
 simp (disch:=omega) only [go_sem,undef,e0,e5,e7,h0,h5,h7,hc,wdC,hcv,hix,hE.ld0,hp0,hcy]
 have H:=VO hv.1 hC H
 refine zW H (hpr _ (H.at 0 rfl)) λu M A' hR f H=>?_
 refine Exists.elim hR λbw hR=>?_
 refine hR.E λY2 eu hoY eA=>?_
 subst eu eA
 have H:=VP hv.1 hC H
 simp (disch:=omega) only [go_sem,undef,e0,e5,h0,h5]
 exact K bw _ M _ rfl rfl rfl rfl (cd hV hoY) H
def Wd.cut(W:Wd)(k:Nat):Wd:={ W with on:=W.on.eraseIdx k }
theorem qvG{k:Nat}(hV:V.ok W)(hk:k < W.on.length)(hon:W.on.length≤1000000)(H:Hq m M S [wdA wb V W,ltA b7 y,mvA b3 x])(K:∀ V1 M (E':Env),E'.get 0=lp wb→E'.get 3=lp b3→E'.get 5=.int .i64 (i:Nat)→E'.get 7=lp b7→E'.has 0=true→E'.has 3=true→E'.has 5=true→E'.has 7=true→V1.ok (W.cut k)→Hq m M S [wdA wb V1 (W.cut k),ltA b7 y,mvA b3 x]→Q .normal E' M)(e0:E.get 0=lp wb)(e3:E.get 3=lp b3)(e5:E.get 5=.int .i64 (i:Nat))(e6:E.get 6=.int .i64 (k:Nat))(e7:E.get 7=lp b7)(h0:E.has 0=true)(h3:E.has 3=true)(h5:E.has 5=true)(h6:E.has 6=true)(h7:E.has 7=true) :
  wpN Tryz.prog jX Q E M:=by
 have hc:=qM (H.at 0 rfl)
 have hrow:=gX (H.at 0 rfl)
 refine Exists.elim hrow.form λoa hov=>Exists.elim hov λoc hov=>?_
 rw [hov] at hrow
 refine RdS.cutK (by decide) hrow 0 k (by omega) (by omega) λa1 c1 hcut1 hl1=>?_
 refine RdS.cutK (by decide) hrow (k+1) W.on.length (by omega) (by omega) λa2 c2 hcut2 hl2=>?_
 have hz:((0:Nat):Int)=0:=rfl
 rw [hz] at hcut1
 have hk1:((k+1:Nat):Int)=(k:Nat)+1:=by omega
 rw [hk1] at hcut2
 simp (disch:=omega) only [go_sem,undef,e0,e3,e5,e6,e7,h0,h3,h5,h6,h7,hc,wdC,hov,hcut1,hcut2]
 refine qg H λb M f H=>?_
 have hc:=qM (H.at 1 rfl)
 have H:Hq m M S [qw b (.cells (([]:List Value)++[]).toArray qv (0,0)),wdA wb V W,ltA b7 y,mvA b3 x]:=H
 have H:=Hq.eE (size:=51) (n:=0) (cap:=0) (xs:=[]) (tail:=[]) H rfl rfl
 have H:=Hq.wdS (H.sel 4 [1,0,2,3] rfl (by decide) (by decide))
 have H:Hq m M S [qw wb (.cells (wdC V W).toArray qn (0,0)),qV qY 1 V.cv V.cs.length (V.cs.flatMap cpL),zK cvA V.cs W.cores,qV qi 1 V.kv V.ks.length (V.ks.flatMap kpL),zK kvA V.ks W.kept,qV qv 51 V.ov W.on.length (W.on.flatMap Lt.cs),qV qv 51 (.slice (some ⟨b,0,none⟩) 0 0) 0 [],ltA b7 y,mvA b3 x]:=H
 rw [hov] at H
 simp (disch:=omega) only [go_sem,undef,e0,e3,e5,e6,e7,h0,h3,h5,h6,h7,hc,wdC,hov]
 have hle1:((W.on.take k).drop 0).length=k - 0:=by simp;omega
 have hle2:((W.on.take W.on.length).drop (k+1)).length=W.on.length - (k+1):=by simp
 refine Qc 6 (n:=0) (k:=k - 0) (xs:=[]) (news:=((W.on.take k).drop 0).flatMap Lt.cs) H rfl rfl (hl1 _ (Own.rds (by decide) Lt.len (H.at 5 rfl))) (by rw [xQ Lt.len,hle1]) (Re _) rfl (by omega) (by omega) λw1 M f H=>?_
 have hc:=cell_of (H.at 0 rfl)
 have H:Hq m M S [qw wb (.cells (wdC V W).toArray qn (0,0)),qV qY 1 V.cv V.cs.length (V.cs.flatMap cpL),zK cvA V.cs W.cores,qV qi 1 V.kv V.ks.length (V.ks.flatMap kpL),zK kvA V.ks W.kept,qV qv 51 (.slice oa W.on.length oc) W.on.length (W.on.flatMap Lt.cs),qV qv 51 w1 (0+(k - 0)) ([]++((W.on.take k).drop 0).flatMap Lt.cs),ltA b7 y,mvA b3 x]:=H
 simp (disch:=omega) only [go_sem,undef,e0,e3,e5,e6,e7,h0,h3,h5,h6,h7,hc,wdC,hov]
 refine Qc 6 (n:=0+(k - 0)) (k:=W.on.length - (k+1)) (xs:=[]++((W.on.take k).drop 0).flatMap Lt.cs) (news:=((W.on.take W.on.length).drop (k+1)).flatMap Lt.cs) H rfl rfl (hl2 _ (Own.rds (by decide) Lt.len (H.at 5 rfl))) (by rw [xQ Lt.len,hle2]) (Re _) rfl (by omega) (by omega) λw2 M f H=>?_
 have hc:=cell_of (H.at 0 rfl)
 have hon2:[]++((W.on.take k).drop 0).flatMap Lt.cs++((W.on.take W.on.length).drop (k+1)).flatMap Lt.cs=(W.on.eraseIdx k).flatMap Lt.cs:=by
  rw [List.eraseIdx_eq_take_drop_succ,List.flatMap_append];simp
 have hln2:0+(k - 0)+(W.on.length - (k+1))=(W.on.eraseIdx k).length:=by rw [List.length_eraseIdx,if_pos hk];omega
 have H:Hq m M S [qw wb (.cells (wdC V W).toArray qn (0,0)),qV qY 1 V.cv V.cs.length (V.cs.flatMap cpL),zK cvA V.cs W.cores,qV qi 1 V.kv V.ks.length (V.ks.flatMap kpL),zK kvA V.ks W.kept,qV qv 51 (.slice oa W.on.length oc) W.on.length (W.on.flatMap Lt.cs),qV qv 51 w2 (W.on.eraseIdx k).length ((W.on.eraseIdx k).flatMap Lt.cs),ltA b7 y,mvA b3 x]:=by
  rw [← hln2,← hon2];exact H
 refine Own.zC (H.at 6 rfl) λwa wc ew=>?_
 have ew2:w2=.slice wa (W.on.eraseIdx k).length wc:=ew
 rw [ew2] at H ⊢
 simp (disch:=omega) only [go_sem,undef,e0,e3,e5,e6,e7,h0,h3,h5,h6,h7,hc,wdC]
 refine xK H λM f H=>?_
 have H:Hq m M S (wdL wb { V with ov:=.slice wa (W.on.eraseIdx k).length wc } (W.cut k)++[ltA b7 y,mvA b3 x]):=H.sel 9 [0,1,2,3,4,6,7,8] rfl (by decide) (by decide)
 have H:=H.wdJ
 simp (disch:=omega) only [go_sem,undef,e0,e3,e5,e7,h0,h3,h5,h7]
 exact K { V with ov:=.slice wa (W.on.eraseIdx k).length wc } M _ rfl rfl rfl rfl rfl rfl rfl rfl ⟨hV.cs,hV.ks,hV.cores⟩ H
end Go.Fw
namespace Go.Fw
open Go.Proofs
variable {m m0 M:Mem} {S:List Nat} {L:List As}
variable {Q:Exit→Env→Mem→Prop} {E:Env} {wb i b3 b7 n:Nat} {V:Wv} {W:Wd} {C:Co} {x:Mv} {y:Lt}
abbrev pl7:NC:=.seq KV (.seq (.seq KK (.cond (.qq 142) (.seq KX .ret) .skip)) KJ)
end Go.Fw
namespace Go.Fw
open Go.Proofs
variable {m m0 M:Mem} {S:List Nat} {L:List As}
variable {Q:Exit→Env→Mem→Prop} {E:Env} {wb i b3 b7 n:Nat} {V:Wv} {W:Wd} {C:Co} {x:Mv} {y:Lt}
def PlR(wb:Nat)(J:Wd→Prop)(u:Value)(A:As):Prop:=∃ W',J W'∧WdR wb W' (.bool true) u A
structure PlZ(W1:Wd)(i:Nat)(C1:Co)(k:List (List UInt8)):Prop where
 c:W1.cores[i]?=some C1
 kk:W1.kept[i]?=some k
 kl:k.length≤400000000
 rl:C1.recs.length≤400000000
 on:W1.on.length≤10000000
 ol:C1.out.length≤10000000
theorem qJd(W:Wd)(k:Nat):(W.cut k).on.length≤W.on.length:=by
 show (W.on.eraseIdx _).length≤_
 rw [List.length_eraseIdx]
 split<;>omega
abbrev plZ:NC:=.seq KZ (.seq KQ .ret)
abbrev plQ(m:Mem)(wb:Nat)(V:Wv)(W:Wd)(J:Wd→Prop):Exit→Env→Mem→Prop:=vB [.qq 4] λu M=>∃ A',PlR wb J u A'∧A'.p M∧Fr m M (wdA wb V W).wp∧(∀ b∈A'.fp,b∈(wdA wb V W).fp∨m b=none)∧∀ b∈A'.wp,b∈(wdA wb V W).wp∨m b=none
theorem qju{W1:Wd}{V1:Wv}{J:Wd→Prop}{C1:Co}{k:List (List UInt8)}(hV:V1.ok W1)(hz:PlZ W1 i C1 k)(hJ:J (W1.drain i 300))(H:Hq m M (wdA wb V W).wp (wdA wb V1 W1::L))(e0:E.get 0=lp wb)(e5:E.get 5=.int .i64 (i:Nat))(h0:E.has 0=true)(h5:E.has 5=true) :
  wpN Tryz.prog plZ (plQ m wb V W J) E M:=by
 simp (disch:=omega) only [go_sem,undef,e0,e5,h0,h5]
 refine zW H (BQ (H.at 0 rfl) hV i 300 hz.c hz.kk hz.kl hz.rl hz.on hz.ol) λu M A' hR f H=>?_
 refine hR.E λV2 eu hoV eA=>?_
 subst eu eA
 simp (disch:=omega) only [go_sem,undef]
 exact ⟨_,⟨_,hJ,rfl,_,hoV,rfl⟩,H.hs.1,H.fr,λb hb=>by rw [MY];rw [MY] at hb;exact H.done.2.2 b hb,H.done.2.2⟩
end Go.Fw
namespace Go.Fw
open Go.Proofs
variable {m m0 M:Mem} {S:List Nat} {L:List As}
variable {Q:Exit→Env→Mem→Prop} {E:Env} {wb i b3 b7 n:Nat} {V:Wv} {W:Wd} {C:Co} {x:Mv} {y:Lt}
abbrev plD:NC:=.seq (.seq vT (.cond (.qq 52) (.seq vS .ret) .skip)) (.seq vR (.seq (.seq vP (.cond (.qq 62) jX .skip)) (.seq jP (.cond (.qq 84) (.seq jO zo) .skip))))
abbrev qZn:NC:=.seq jP (.cond (.qq 84) (.seq jO zo) .skip)
abbrev plE:NC:=.seq Kc (.cond (.qq 96) Kb (.seq Ka (.cond (.qq 106) KY (.seq KW (.cond (.qq 118) pl7 .skip)))))
abbrev plC:NC:=.seq yE (.cond (.qq 35) xX (.seq (.seq yD (.cond (.qq 47) .skip (.seq yC (.cond (.qq 47) .skip vU)))) (.cond (.qq 47) plD plE)))
abbrev plB:NC:=.seq (.seq yF (.block 0 plC)) plZ
theorem qqw:Zq=.seq Vi (.seq Vh (.seq Vg (.seq (.seq Vf (.cond (.qq 23) Ve .skip)) plB))):=rfl
theorem qvF{W0:Wd}{i0:Nat}(hV:V.ok W0)(hC:W0.cores[i]?=some C)(hf:C.Fit)(hy:y.dst=(i:Nat))(H:Hq m M S [wdA wb V W0,ltA b7 y,mvA b3 x])(K2:∀ b,plK m S [ltA b7 y,mvA b3 x] wb i (W0.put i (C.take b y).1) Q)(hk:x.kind≠3)(e0:E.get 0=lp wb)(e3:E.get 3=lp b3)(e5:E.get 5=.int .i64 (i0:Nat))(e7:E.get 7=lp b7)(h0:E.has 0=true)(h3:E.has 3=true)(h5:E.has 5=true)(h7:E.has 7=true) :
  wpN Tryz.prog qZn Q E M:=by
 have hcx:=cell_of (H.at 2 rfl)
 have hcy:=cell_of (H.at 1 rfl)
 show wpN Tryz.prog (.seq jP (.cond (.qq 84) (.seq jO zo) .skip)) Q E M
 generalize hT:zo=T
 simp (disch:=omega) only [go_sem,undef,e0,e3,e5,e7,h0,h3,h5,h7,hcx,hcy,qZ hk,hy]
 subst hT
 exact qvE hV hC hf H K2 rfl rfl rfl rfl rfl rfl
end Go.Fw
namespace Go.Fw
open Go.Proofs
variable {m m0 M:Mem} {S:List Nat} {L:List As}
variable {wb n:Nat} {V:Wv} {W:Wd} {x:Mv}
end Go.Fw
namespace Go.Fw
open Go.Proofs
variable {m m0 M:Mem} {S:List Nat} {L:List As}
variable {Q:Exit→Env→Mem→Prop} {E:Env} {wb i b3 b7 n:Nat} {V:Wv} {W W':Wd} {C:Co} {x:Mv} {y:Lt}
structure CoW(C:Co):Prop where
 ok:C.Ok
 recs:C.recs=[]
 out:C.out=[]
 leads:C.leads.length≤1
structure WL(W:Wd)(n:Nat):Prop where
 num:W.n=n
 n3:n=3∨n=5∨n=7
 cl:W.cores.length=n
 kl:W.kept.length=n
 co:∀ C∈W.cores,CoW C
 ke:∀ k∈W.kept,k.length≤1000000
 on:W.on.length≤1000000
 dst:∀ y∈W.on,∃ k:Nat,k < n∧y.dst=(k:Nat)
def Gv1(W W1:Wd)(i:Nat):Prop:=∃ (k:Nat) (y:Lt) (C:Co) (b:Nat),W.on[k]?=some y∧y.dst=(i:Nat)∧W.cores[i]?=some C∧W1=(W.cut k).put i (C.take b y).1
def Gv(W W':Wd):Prop:=∃ W1 i,Gv1 W W1 i∧W'=W1.drain i 300
theorem WL.z(h:WL W n){W1:Wd}(hp:Gv1 W W1 i):∃ C1 k,PlZ W1 i C1 k:=by
 obtain ⟨k,y,C,b,hy,hd,hC,rfl⟩:=hp
 have hil:=(List.getElem?_eq_some_iff.1 hC).1
 have hcl:=h.cl
 have hkl:=h.kl
 have hon:=h.on
 have hCw:=h.co C (List.mem_of_getElem? hC)
 have hn:=hCw.ok.n
 have hst:=(HA C b y (by omega)).sz
 have h1:=hst.recs
 have h2:=hst.out
 rw [hCw.recs] at h1
 rw [hCw.out] at h2
 simp only [List.length_nil] at h1 h2
 have hce:=qJd W k
 have hik:i < W.kept.length:=by omega
 have hke:=h.ke _ (List.getElem_mem hik)
 exact ⟨_,W.kept[i],⟨List.getElem?_set_self hil,(List.getElem?_eq_getElem hik:W.kept[i]?=some W.kept[i]),by omega,by omega,by show (W.cut k).on.length≤_;omega,by omega⟩⟩
theorem qvI{j:Nat}(hV:V.ok W)(hg:WL W n)(hk:x.kind=2)(hjl:j < W.on.length)(H:Hq m M S [wdA wb V W,mvA b3 x])(K:∀ W1 i1 L1,Gv1 W W1 i1→plK m S L1 wb i1 W1 Q)(e0:E.get 0=lp wb)(e3:E.get 3=lp b3)(e5:E.get 5=.int .i64 (i:Nat))(e6:E.get 6=.int .i64 (j:Nat))(h0:E.has 0=true)(h3:E.has 3=true)(h5:E.has 5=true)(h6:E.has 6=true) :
  wpN Tryz.prog plD Q E M:=by
 have hon:=hg.on
 have hcl:=hg.cl
 show wpN Tryz.prog (.seq (.seq vT (.cond (.qq 52) (.seq vS .ret) .skip)) (.seq vR (.seq (.seq vP (.cond (.qq 62) jX .skip)) qZn))) Q E M
 generalize hT:qZn=T
 generalize hT2:jX=T2
 have hrow:=gX (H.at 0 rfl)
 refine Exists.elim hrow.form λoa hov=>Exists.elim hov λoc hov=>?_
 rw [hov] at hrow
 refine RdS.elK hrow hjl (by decide) λbx o y hy hix hE=>?_
 have hlda0:=hE.mD 51 (by decide) (by decide)
 refine Exists.elim (hg.dst y (List.mem_of_getElem? hy)) λd hd=>?_
 have hdl:=hd.1
 have hdy:=hd.2
 refine Exists.elim (⟨W.cores[d]'(by omega),List.getElem?_eq_getElem (by omega)⟩:∃ C,W.cores[d]?=some C) λC hC=>?_
 have hgC:=hg.co C (List.mem_of_getElem? hC)
 have g3:=hgC.leads
 have hf:=hgC.ok.fit (by rw [hgC.recs];exact Nat.zero_le _) (by rw [hgC.out];exact Nat.zero_le _) (by omega)
 have hc:=qM (H.at 0 rfl)
 have hcx:=cell_of (H.at 1 rfl)
 simp (disch:=omega) only [go_sem,undef,e0,e3,e5,e6,h0,h3,h5,h6,hc,wdC,hov,hix,hlda0,qX (show ¬ ((j:Nat):Int) < 0 by omega)]
 refine qg H λb7 M f H=>?_
 have hcx:=cell_of (H.at 2 rfl)
 simp (disch:=omega) only [go_sem,undef,e0,e3,e5,e6,h0,h3,h5,h6,H.cs,hcx]
 refine qs H rfl rfl λM f H=>?_
 have H:Hq m M S [ltA b7 y,wdA wb V W,mvA b3 x]:=H
 have H:=H.perm (List.Perm.swap ..)
 have hcx:=cell_of (H.at 2 rfl)
 simp (disch:=omega) only [go_sem,undef,e0,e3,e5,e6,h0,h3,h5,h6,hcx,qZ (show x.kind≠4 by omega)]
 subst hT2
 refine qvG hV hjl hon H (λV1 M E' g0 g3 g5 g7 k0 k3 k5 k7 hV1 H=>?_) rfl rfl rfl rfl rfl rfl rfl rfl rfl rfl
 subst hT
 exact qvF (C:=C) hV1 hC hf hdy H (λb=>K _ d _ ⟨j,y,C,b,hy,hdy,hC,rfl⟩) (by omega) g0 g3 g5 g7 k0 k3 k5 k7
theorem qvL{J:Wd→Prop}{j:Nat}(hV:V.ok W)(hg:WL W n)(hk:x.kind=2)(hjl:j < W.on.length)(hJ:∀ W',Gv W W'→J W')(H:Hq m M (wdA wb V W).wp [wdA wb V W,mvA b3 x])(e0:E.get 0=lp wb)(e3:E.get 3=lp b3)(e5:E.get 5=.int .i64 (i:Nat))(e6:E.get 6=.int .i64 (j:Nat))(h0:E.has 0=true)(h3:E.has 3=true)(h5:E.has 5=true)(h6:E.has 6=true) :
  wpN Tryz.prog plB (plQ m wb V W J) E M:=by
 have hcx:=cell_of (H.at 1 rfl)
 have hK:∀ W1 i1 L1,Gv1 W W1 i1→plK m (wdA wb V W).wp L1 wb i1 W1 λe E M=>match e with | .normal=>wpN Tryz.prog plZ (plQ m wb V W J) E M | _=>plQ m wb V W J e E M:=λW1 i1 L1 hp V1 M E' g0 g5 k0 k5 hV1 H=>by
  refine Exists.elim (hg.z hp) λC1 hz=>Exists.elim hz λk1 hz=>?_
  exact qju hV1 hz (hJ _ ⟨W1,i1,hp,rfl⟩) H g0 g5 k0 k5
 show wpN Tryz.prog (.seq (.seq yF (.block 0 (.seq yE (.cond (.qq 35) xX (.seq (.seq yD (.cond (.qq 47) .skip (.seq yC (.cond (.qq 47) .skip vU)))) (.cond (.qq 47) plD plE)))))) plZ) _ E M
 generalize hTZ:plZ=TZ at *
 generalize hQ:plQ m wb V W J=Q0 at *
 generalize hT1:xX=T1
 generalize hTD:plD=TD
 generalize hTE:plE=TE
 simp (disch:=omega) only [go_sem,undef,e0,e3,e5,e6,h0,h3,h5,h6,hcx,qX (show ¬ x.kind=1 by omega),qZ hk]
 subst hTD
 exact qvI hV hg hk hjl H hK rfl rfl rfl rfl rfl rfl rfl rfl
theorem qvH(h:(wdA wb V W).p m)(hV:V.ok W)(hg:WL W n)(x:Mv)(hk:x.kind=2)(hon:W.on≠[])(hw:I64 x.who)(hn:I64 x.num) :
  CM Tryz.prog mZ [lp wb,x.v] m (wdA wb V W) (PlR wb (Gv W)):=by
 have H:=Hq.one h
 have hnum:=hg.num
 have hon2:=hg.on
 have hn3:=hg.n3
 have hrow:=gX (H.at 0 rfl)
 refine Exists.elim hrow.form λoa hov=>Exists.elim hov λoc hov=>?_
 refine iQ (by simp [Tryz.f33]) ?_
 rw [qqw]
 generalize hT:plB=T
 simp (disch:=omega) only [go_sem,undef]
 refine qg H λb3 M f H=>?_
 have H:=H.perm (List.Perm.swap ..)
 have hc:=qM (H.at 0 rfl)
 have hcx:=cell_of (H.at 1 rfl)
 simp (disch:=omega) only [go_sem,undef,hc,wdC,hcx,hnum]
 refine PJ H (oG x.who 0 ((n:Nat) - 1) (by omega) hw (by decide) (by omega)) λu M hR f H=>?_
 refine Exists.elim hR λr hr=>?_
 have eu:=hr.1
 subst eu
 refine Exists.elim (⟨r.toNat,by omega⟩:∃ i:Nat,r=(i:Nat)) λi hi=>?_
 subst hi
 have hc:=qM (H.at 0 rfl)
 have hcx:=cell_of (H.at 1 rfl)
 have hl:0 < W.on.length:=List.length_pos_iff.2 hon
 simp (disch:=omega) only [go_sem,undef,hc,wdC,hcx,hov,qZ (show ((W.on.length:Nat):Int) > 0 by omega)]
 refine PJ H (oG x.num 0 ((W.on.length:Nat) - 1) (by omega) hn (by decide) (by omega)) λu M hR2 f H=>?_
 refine Exists.elim hR2 λk hk2=>?_
 have eu:=hk2.1
 subst eu
 refine Exists.elim (⟨k.toNat,by omega⟩:∃ j:Nat,k=(j:Nat)) λj hj=>?_
 subst hj
 simp (disch:=omega) only [go_sem,undef]
 subst hT
 exact qvL hV hg hk (by omega) (λW' hp=>hp) H rfl rfl rfl rfl rfl rfl rfl rfl
end Go.Fw
