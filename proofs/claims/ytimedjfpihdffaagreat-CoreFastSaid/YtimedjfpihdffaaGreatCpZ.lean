import Derived.Test.YtimedjfpihdffaaGreatCpY
set_option linter.unusedVariables false
set_option linter.unusedSimpArgs false
namespace Go.Fw
open Go.Proofs
variable {m m0 M:Mem} {S:List Nat} {L:List As}
variable {cb:Nat} {Y:Ly} {C:Co}
abbrev iV (n:Int):Value:=.int .i64 n
theorem iV_enc:KeyEnc false [.i .i64] iV where
  fit x:=rfl
  eq x y:=le_i x y
/-- the way of an answer -/
def wayK (k:Int):Int:=if k = 2 then 0 else if k = 4 then 1 else if k = 7 then 2 else 0
theorem ways_look (k:Int):(match look k (updM 7 (iV 2) (updM 4 (iV 1) (updM 2 (iV 0) ([]:List (Int × Value))))) with | some v => v | none => iV 0) = iV (wayK k):=by
  have e:updM 7 (iV 2) (updM 4 (iV 1) (updM 2 (iV 0) ([]:List (Int × Value)))) = [(2,iV 0),(4,iV 1),(7,iV 2)]:=by simp [updM,keysOf]
  rw [e]
  unfold wayK look
  by_cases h2:k = 2
  · subst h2; rfl
  by_cases h4:k = 4
  · subst h4; rfl
  by_cases h7:k = 7
  · subst h7; rfl
  · rw [if_neg h2,if_neg h4,if_neg h7]
    simp [lookE,h2,h4,h7,Ne.symm h2,Ne.symm h4,Ne.symm h7]
set_option maxHeartbeats 8000000 in
theorem ans_map {E:Env} {b3:Nat} {x:Lt} {Q:Exit → Env → Mem → Prop} (H:Hq m M S (cellA b3 (.cells x.cs.toArray T_api_Letter (0,0)) :: L)) (e3:E.get 3 = lp b3) (h0:E.has 0 = true) (h3:E.has 3 = true) (h4:E.has 4 = true)
    (K:∀ M,Hq m M S (cellA b3 (.cells x.cs.toArray T_api_Letter (0,0)) :: L) → Q .normal [(0,E.get 0),(3,lp b3),(4,E.get 4),(5,.int .i64 (wayK x.kind))] M) :
    wpN Tryz.prog Q48r3 Q E M:=by
  simp (disch:=omega) only [go_sem,undef,e3,h0,h3,h4,H.cs]
  refine newQ H fun r M f H => ?_
  simp (disch:=omega) only [go_sem,undef,e3,h0,h3,h4,H.cs]
  have hM:MapIs iV M r ([]:List (Int × Value)):=⟨#[],0,H.cs.1,rfl,by simp [keysOf],by simp,by simp⟩
  refine mup_own (k:=(2:Int)) iV_enc hM fun M1 hM f1 _ => ?_
  simp (disch:=omega) only [go_sem,undef,e3,h0,h3,h4]
  refine mup_own (k:=(4:Int)) iV_enc hM fun M2 hM f2 _ => ?_
  simp (disch:=omega) only [go_sem,undef,e3,h0,h3,h4]
  refine mup_own (k:=(7:Int)) iV_enc hM fun M3 hM f3 _ => ?_
  have H:=H.rep0 (A':=nilA) (M:=M3) trivial (by simpa using ((f1.transS f2).transS f3)) (by simp) (by simp)
  have H:=H.tail
  have hlk:=rd_lkp iV_enc hM x.kind (iV 0) false
  have hlk2:rd (.lkp false [.i .i64] (.int .i64 0) false) [.map (some r),.int .i64 x.kind] M3 = some (.int .i64 (wayK x.kind)):=by
    refine hlk.trans (congrArg some ?_)
    exact ways_look x.kind
  simp (disch:=omega) only [go_sem,undef,e3,h0,h3,h4,H.cs,hlk2]
  exact K _ H
end Go.Fw
namespace Go.Fw
open Go.Proofs
variable {m m0 M:Mem} {S:List Nat} {L:List As}
theorem zip_perm {α β γ:Type} (f:α → β → γ):∀ (j:Nat) (vs:List α) (xs:List β) (v:α) (x:β),vs[j]? = some v → xs[j]? = some x → (List.zipWith f vs xs).Perm (f v x :: List.zipWith f (vs.eraseIdx j) (xs.eraseIdx j))
  | _,[],_,_,_,h,_ => by simp at h
  | _,_ :: _,[],_,_,_,h => by simp at h
  | 0,a :: vs,b :: xs,v,x,h1,h2 => by
    simp at h1 h2; subst h1 h2; exact List.Perm.refl _
  | j + 1,a :: vs,b :: xs,v,x,h1,h2 => by
    have ih:=zip_perm f j vs xs v x (by simpa using h1) (by simpa using h2)
    exact (ih.cons (f a b)).trans (List.Perm.swap ..)
/-- one lead is taken out of the others -/
theorem lds_open {vs:List LdV} {xs:List Ld} {j:Nat} {v:LdV} {x:Ld} (hv:vs[j]? = some v) (hx:xs[j]? = some x) (H:Hq m0 m S (ldsA vs xs :: L)):Hq m0 m S (ldA v x :: ldsA (vs.eraseIdx j) (xs.eraseIdx j) :: L):=by
  have H:=Hq.splitL (l:=List.zipWith ldA vs xs) H
  have H:=H.perm ((zip_perm ldA j vs xs v x hv hx).symm.append_right L)
  exact (Hq.joinL (l:=List.zipWith ldA (vs.eraseIdx j) (xs.eraseIdx j)) (L:=ldA v x :: L) (H.perm (List.perm_middle))).perm (List.Perm.swap ..)
/-- and comes back, turned -/
theorem lds_close {vs:List LdV} {xs:List Ld} {j:Nat} {v:LdV} {x:Ld} (hv:j < vs.length) (hx:j < xs.length) (H:Hq m0 m S (ldA v x :: ldsA (vs.eraseIdx j) (xs.eraseIdx j) :: L)):Hq m0 m S (ldsA (vs.set j v) (xs.set j x) :: L):=by
  have H:=Hq.splitL (l:=List.zipWith ldA (vs.eraseIdx j) (xs.eraseIdx j)) (H.perm (List.Perm.swap ..))
  have hp:=zip_perm ldA j (vs.set j v) (xs.set j x) v x (by simp [hv]) (by simp [hx])
  rw [List.eraseIdx_set_eq,List.eraseIdx_set_eq] at hp
  exact Hq.joinL (l:=List.zipWith ldA (vs.set j v) (xs.set j x)) (H.perm ((hp.append_right L).trans List.perm_middle.symm))
end Go.Fw
namespace Go.Fw
open Go.Proofs
variable {m m0 M:Mem} {S:List Nat} {L:List As}
variable {cb:Nat} {Y:Ly} {C:Co}
/-- a core, opened at one lead: its cell, its replies, what was said, and the rest -/
def coR (cb:Nat) (Y:Ly) (C:Co) (j:Nat):List As:=[ldsA (Y.lds.eraseIdx j) (C.leads.eraseIdx j),cellA cb (.cells (Y.c C).cs.toArray T_core_Core (0,0)),logA Y.lb Y.lr C.cut C.lg,idxA Y.xb Y.xr C.xcut C.xl,ownA T_P_core_lead 1 Y.lv Y.lds.length (Y.lds.flatMap fun v => ptV v.b),ownA T_P_core_wish 1 Y.wv Y.wss.length (Y.wss.flatMap ptV),
  brA T_S_uint8 Y.rv Y.rs C.recs,ownA T_api_Letter 51 Y.ov C.out.length (C.out.flatMap Lt.cs),wssA Y.wss C.wishes]
theorem co_lead {j:Nat} {v:LdV} {l:Ld} (hv:Y.lds[j]? = some v) (hl:C.leads[j]? = some l) (H:Hq m0 m S (coA cb Y C :: L)) :
    Hq m0 m S (cellA v.b (.cells (l.c v).cs.toArray T_core_lead (0,0)) :: ownA T_api_Attr 8 v.rp l.reps.length (l.reps.flatMap Att.cs) :: ownA T_quorum_Said 22 v.sd l.said.length (l.said.flatMap Sd.cs) :: starL (coR cb Y C j) :: L):=by
  have H:=Hq.coS H
  have H:Hq m0 m S (ldsA Y.lds C.leads :: ([cellA cb (.cells (Y.c C).cs.toArray T_core_Core (0,0)),logA Y.lb Y.lr C.cut C.lg,idxA Y.xb Y.xr C.xcut C.xl,ownA T_P_core_lead 1 Y.lv Y.lds.length (Y.lds.flatMap fun v => ptV v.b),ownA T_P_core_wish 1 Y.wv Y.wss.length (Y.wss.flatMap ptV),
    brA T_S_uint8 Y.rv Y.rs C.recs,ownA T_api_Letter 51 Y.ov C.out.length (C.out.flatMap Lt.cs),wssA Y.wss C.wishes] ++ L)):=by
    refine H.perm ?_
    show List.Perm _ (_ :: _ :: _ :: _ :: _ :: _ :: _ :: ldsA Y.lds C.leads :: wssA Y.wss C.wishes :: L)
    exact (List.perm_middle (l₁:=[cellA cb (.cells (Y.c C).cs.toArray T_core_Core (0,0)),logA Y.lb Y.lr C.cut C.lg,idxA Y.xb Y.xr C.xcut C.xl,ownA T_P_core_lead 1 Y.lv Y.lds.length (Y.lds.flatMap fun v => ptV v.b),ownA T_P_core_wish 1 Y.wv Y.wss.length (Y.wss.flatMap ptV),brA T_S_uint8 Y.rv Y.rs C.recs,ownA T_api_Letter 51 Y.ov C.out.length (C.out.flatMap Lt.cs)]) (l₂:=wssA Y.wss C.wishes :: L)).symm
  have H:=lds_open hv hl H
  have H:=Hq.splitL (l:=[cellA v.b (.cells (l.c v).cs.toArray T_core_lead (0,0)),ownA T_api_Attr 8 v.rp l.reps.length (l.reps.flatMap Att.cs),ownA T_quorum_Said 22 v.sd l.said.length (l.said.flatMap Sd.cs)]) H
  have H:Hq m0 m S (coR cb Y C j ++ ([cellA v.b (.cells (l.c v).cs.toArray T_core_lead (0,0)),ownA T_api_Attr 8 v.rp l.reps.length (l.reps.flatMap Att.cs),ownA T_quorum_Said 22 v.sd l.said.length (l.said.flatMap Sd.cs)] ++ L)):=by
    refine H.perm ?_
    exact (List.perm_append_comm_assoc _ _ _)
  have H:=Hq.joinL H
  exact H.perm (List.perm_middle (l₁:=[cellA v.b (.cells (l.c v).cs.toArray T_core_lead (0,0)),ownA T_api_Attr 8 v.rp l.reps.length (l.reps.flatMap Att.cs),ownA T_quorum_Said 22 v.sd l.said.length (l.said.flatMap Sd.cs)]))
theorem set_row {v v':LdV} (hb:v'.b = v.b):∀ (vs:List LdV) (j:Nat),vs[j]? = some v → (vs.set j v').flatMap (fun v => ptV v.b) = vs.flatMap fun v => ptV v.b
  | [],_,h => by simp at h
  | a :: r,0,h => by
    simp at h; subst h
    rw [List.set_cons_zero,List.flatMap_cons,List.flatMap_cons,hb]
  | a :: r,j + 1,h => by
    rw [List.set_cons_succ,List.flatMap_cons,List.flatMap_cons,set_row hb r j (by simpa using h)]
theorem co_back {j:Nat} {v v':LdV} {l l':Ld} (hv:Y.lds[j]? = some v) (hl:C.leads[j]? = some l) (hb:v'.b = v.b)
    (H:Hq m0 m S (cellA v'.b (.cells (l'.c v').cs.toArray T_core_lead (0,0)) :: ownA T_api_Attr 8 v'.rp l'.reps.length (l'.reps.flatMap Att.cs) :: ownA T_quorum_Said 22 v'.sd l'.said.length (l'.said.flatMap Sd.cs) :: starL (coR cb Y C j) :: L)) :
    Hq m0 m S (coA cb { Y with lds:=Y.lds.set j v' } { C with leads:=C.leads.set j l' } :: L):=by
  have H:Hq m0 m S (starL (coR cb Y C j) :: ([cellA v'.b (.cells (l'.c v').cs.toArray T_core_lead (0,0)),ownA T_api_Attr 8 v'.rp l'.reps.length (l'.reps.flatMap Att.cs),ownA T_quorum_Said 22 v'.sd l'.said.length (l'.said.flatMap Sd.cs)] ++ L)) :=
    H.perm (List.perm_middle (l₁:=[cellA v'.b (.cells (l'.c v').cs.toArray T_core_lead (0,0)),ownA T_api_Attr 8 v'.rp l'.reps.length (l'.reps.flatMap Att.cs),ownA T_quorum_Said 22 v'.sd l'.said.length (l'.said.flatMap Sd.cs)])).symm
  have H:=Hq.splitL H
  have H:=H.perm (List.perm_append_comm_assoc [cellA v'.b (.cells (l'.c v').cs.toArray T_core_lead (0,0)),ownA T_api_Attr 8 v'.rp l'.reps.length (l'.reps.flatMap Att.cs),ownA T_quorum_Said 22 v'.sd l'.said.length (l'.said.flatMap Sd.cs)] (coR cb Y C j) L)
  have H:Hq m0 m S (ldA v' l' :: (coR cb Y C j ++ L)):=Hq.joinL H
  have H:=lds_close (vs:=Y.lds) (xs:=C.leads) (List.getElem?_eq_some_iff.1 hv).1 (List.getElem?_eq_some_iff.1 hl).1 H
  refine Hq.coJ (H.perm ?_)
  have e1:=set_row hb Y.lds j hv
  show List.Perm (cellA cb _ :: logA _ _ _ _ :: idxA _ _ _ _ :: ownA _ _ _ _ _ :: ownA _ _ _ _ _ :: brA _ _ _ _ :: ownA _ _ _ _ _ :: ldsA _ _ :: wssA _ _ :: L) _
  simp only [e1,List.length_set]
  exact List.perm_middle (l₁:=[cellA cb (.cells (Y.c C).cs.toArray T_core_Core (0,0)),logA Y.lb Y.lr C.cut C.lg,idxA Y.xb Y.xr C.xcut C.xl,ownA T_P_core_lead 1 Y.lv Y.lds.length (Y.lds.flatMap fun v => ptV v.b),ownA T_P_core_wish 1 Y.wv Y.wss.length (Y.wss.flatMap ptV),brA T_S_uint8 Y.rv Y.rs C.recs,ownA T_api_Letter 51 Y.ov C.out.length (C.out.flatMap Lt.cs)]) (l₂:=wssA Y.wss C.wishes :: L)
end Go.Fw
namespace Go.Fw
open Go.Proofs
variable {m m0 M:Mem} {S:List Nat} {L:List As}
variable {cb:Nat} {Y:Ly} {C:Co}
/-- it is proposed at a later ballot -/
def Co.again2 (C:Co) (l:Ld) (x:Cmd) (a:Att):Co :=
  if rightA a then
    if (C.set l.id ⟨1,l.bal,l.bal,x,a,false⟩).2 = true then (C.set l.id ⟨1,l.bal,l.bal,x,a,false⟩).1.beginE (newLd l.id 0 l.bal false x a)
    else (C.set l.id ⟨1,l.bal,l.bal,x,a,false⟩).1.leave l.id
  else C.leave l.id
def Co.again (C:Co) (l:Ld) (x:Cmd) (told:Att):Co:=C.again2 l x (joinA told (attrF C.xcut C.xl l.id x))
abbrev agA:NC:=.seq (.seq Q104r2 (.cond (.slot 44) (.seq Q104r3 .ret) .skip)) Q104r4
set_option maxHeartbeats 16000000 in
theorem again_b {C0:Co} {Y0:Ly} {E:Env} {b6 b8 j:Nat} {v:LdV} {l:Ld} {x:Cmd} {a:Att} (ho:Y.ok C) (hv:Y.lds[j]? = some v) (hl:C.leads[j]? = some l) (hrec:C.recs.length ≤ 1000000) (hn:C.leads.length ≤ 100000) (hn7:C.n ≤ 7) (hout:C.out.length ≤ 999000)
    (H:Hq m M (coA cb Y0 C0).wp [cellA b8 (.cells a.cs.toArray T_api_Attr (0,0)),cellA b6 (.cells x.cs.toArray T_api_Command (0,0)),coA cb Y C])
    (e0:E.get 0 = lp cb) (e1:E.get 1 = lp v.b) (e6:E.get 6 = lp b6) (e8:E.get 8 = lp b8) (h0:E.has 0 = true) (h1:E.has 1 = true) (h6:E.has 6 = true) (h8:E.has 8 = true) :
    wpN Tryz.prog agA (retP [] fun u M => ∃ A',CoR cb (C.again2 l x a) (.tuple #[]) u A' ∧ A'.p M ∧ Fr m M (coA cb Y0 C0).wp ∧ (∀ b ∈ A'.fp,b ∈ (coA cb Y0 C0).fp ∨ m b = none) ∧ ∀ b ∈ A'.wp,b ∈ (coA cb Y0 C0).wp ∨ m b = none) E M:=by
  have hss:=coset_same C l.id ⟨1,l.bal,l.bal,x,a,false⟩
  by_cases hr:rightA a
  · have hp:C.again2 l x a = if (C.set l.id ⟨1,l.bal,l.bal,x,a,false⟩).2 = true then (C.set l.id ⟨1,l.bal,l.bal,x,a,false⟩).1.beginE (newLd l.id 0 l.bal false x a) else (C.set l.id ⟨1,l.bal,l.bal,x,a,false⟩).1.leave l.id:=if_pos hr
    rw [hp]
    simp (disch:=omega) only [go_sem,undef,e0,e1,e6,e8,h0,h1,h6,h8,H.cs]
    refine callQ H (deps_Right_s a _) fun M f H => ?_
    have hcl:=ld_cell (lds_at (co_lds (H.at 2 rfl)) hv hl)
    simp (disch:=omega) only [go_sem,undef,e0,e1,e6,e8,h0,h1,h6,h8,H.cs,dec_t hr,Bool.not_true,hcl,Ld.c]
    refine callA 2 H (core_set_k (H.at 2 rfl) ho l.id ⟨1,l.bal,l.bal,x,a,false⟩ hrec) rfl fun u M A' hR f H => ?_
    refine hR.E fun Y1 eu ho1 eA hy1 => ?_
    subst eu eA
    clear hR hp
    generalize C.set l.id ⟨1,l.bal,l.bal,x,a,false⟩ = r at *
    obtain ⟨C1,ok⟩:=r
    have Hn:Hq m M (coA cb Y0 C0).wp [cellA b8 (.cells a.cs.toArray T_api_Attr (0,0)),cellA b6 (.cells x.cs.toArray T_api_Command (0,0)),coA cb Y1 C1]:=H
    clear H
    have hl1:C1.leads[j]? = some l:=by rw [show C1.leads = C.leads from hss.1]; exact hl
    have hv1:Y1.lds[j]? = some v:=by rw [hy1]; exact hv
    cases ok with
    | true =>
      have H:=Hn
      have hcl:=ld_cell (lds_at (co_lds (H.at 2 rfl)) hv1 hl1)
      simp (disch:=omega) only [go_sem,undef,e0,e1,e6,e8,h0,h1,h6,h8,H.cs,Bool.not_true,hcl,Ld.c]
      refine newQ H fun b9 M f H => ?_
      have H:=new_ld H
      have H:Hq m M (coA cb Y0 C0).wp (ldA ⟨b9,.slice none 0 0,.slice none 0 0⟩ (newLd l.id 0 l.bal false x a) :: coA cb Y1 C1 :: []):=H.sel 4 [0,3] rfl (by decide) (by decide)
      have H:=Hq.join H
      simp (disch:=omega) only [go_sem,undef,e0,e1,e6,e8,h0,h1,h6,h8]
      refine callA0 H (core_begin_s (H.at 0 rfl) ho1 (Nat.le_trans (Nat.le_of_eq (congrArg List.length hss.1)) hn) (Nat.le_trans (Nat.le_of_eq hss.2.1) hn7) (Nat.le_trans (Nat.le_of_eq (congrArg List.length hss.2.2.1)) hout)) fun u M A' hR f H => ?_
      refine hR.E fun Y2 eu ho2 eA => ?_
      subst eu eA
      simp (disch:=omega) only [go_sem,undef]
      exact cx_fin co_fw ho2 H
    | false =>
      have H:=Hn
      have hcl:=ld_cell (lds_at (co_lds (H.at 2 rfl)) hv1 hl1)
      simp (disch:=omega) only [go_sem,undef,e0,e1,e6,e8,h0,h1,h6,h8,H.cs,Bool.not_false,hcl,Ld.c]
      refine callA 2 H (core_leave_s (H.at 2 rfl) ho1 l.id (Nat.le_trans (Nat.le_of_eq (congrArg List.length hss.1)) (Nat.le_trans hn (by decide)))) rfl fun u M A' hR f H => ?_
      refine hR.E fun Y2 eu ho2 eA => ?_
      subst eu eA
      simp (disch:=omega) only [go_sem,undef]
      exact cx_fin co_fw ho2 (H.tail.tail)
  · have hp:C.again2 l x a = C.leave l.id:=if_neg hr
    rw [hp]
    simp (disch:=omega) only [go_sem,undef,e0,e1,e6,e8,h0,h1,h6,h8,H.cs]
    refine callQ H (deps_Right_s a _) fun M f H => ?_
    have hcl:=ld_cell (lds_at (co_lds (H.at 2 rfl)) hv hl)
    simp (disch:=omega) only [go_sem,undef,e0,e1,e6,e8,h0,h1,h6,h8,H.cs,dec_f hr,Bool.not_false,hcl,Ld.c]
    refine callA 2 H (core_leave_s (H.at 2 rfl) ho l.id (by omega)) rfl fun u M A' hR f H => ?_
    refine hR.E fun Y2 eu ho2 eA => ?_
    subst eu eA
    simp (disch:=omega) only [go_sem,undef]
    exact cx_fin co_fw ho2 (H.tail.tail)
theorem again_code:Q104c = .seq Q104r0 (.seq Q104r1 agA):=rfl
set_option maxHeartbeats 16000000 in
theorem core_again_s (h:(coA cb Y C).p m) (ho:Y.ok C) {j:Nat} {v:LdV} {l:Ld} (hv:Y.lds[j]? = some v) (hl:C.leads[j]? = some l) (x:Cmd) (told:Att) (hxl:IdxOk C.xl) (hkey:x.key.size ≤ 1000) (hrec:C.recs.length ≤ 1000000) (hn:C.leads.length ≤ 100000) (hn7:C.n ≤ 7) (hout:C.out.length ≤ 999000) :
    CM Tryz.prog n_core_Core_again [lp cb,lp v.b,x.v,told.v] m (coA cb Y C) (CoR cb (C.again l x told) (.tuple #[])):=by
  have H:=Hq.one h
  have hw:C.again l x told = C.again2 l x (joinA told (attrF C.xcut C.xl l.id x)):=rfl
  rw [hw]
  refine Q104go (by simp [Tryz.f33]) ?_
  rw [again_code]
  generalize hC:agA = T
  simp (disch:=omega) only [go_sem,undef]
  refine newQ H fun b6 M f H => ?_
  simp (disch:=omega) only [go_sem,undef]
  refine newQ H fun b7 M f H => ?_
  have hcl:=fun M (hA:(coA cb Y C).p M) => ld_cell (lds_at (co_lds hA) hv hl)
  simp (disch:=omega) only [go_sem,undef,H.cs,co_cell (H.at 2 rfl),Ly.c,hcl _ (H.at 2 rfl),Ld.c]
  refine both_intro ?_ ?_
  · simp (disch:=omega) only [go_sem,undef,H.cs,co_cell (H.at 2 rfl),Ly.c,hcl _ (H.at 2 rfl),Ld.c]
    refine callQ H (attr_s (co_idx (H.at 2 rfl)) hxl l.id x hkey) fun M f H => ?_
    simp (disch:=omega) only [go_sem,undef,H.cs,co_cell (H.at 2 rfl),Ly.c,hcl _ (H.at 2 rfl),Ld.c]
    refine both_intro ?_ ?_
    · simp (disch:=omega) only [go_sem,undef,H.cs,co_cell (H.at 2 rfl),Ly.c,hcl _ (H.at 2 rfl),Ld.c]
      refine newQ H fun b11 M f H => ?_
      simp (disch:=omega) only [go_sem,undef,H.cs,co_cell (H.at 3 rfl),Ly.c,hcl _ (H.at 3 rfl),Ld.c]
      refine both_intro ?_ ?_
      · simp (disch:=omega) only [go_sem,undef,H.cs,co_cell (H.at 3 rfl),Ly.c,hcl _ (H.at 3 rfl),Ld.c]
        refine callQ H (join_s (l:=[told,attrF C.xcut C.xl l.id x]) (n:=2) rfl (two_att H.cs.1) (by decide) (by decide)) fun M f H => ?_
        simp (disch:=omega) only [go_sem,undef,H.cs,co_cell (H.at 3 rfl),Ly.c,hcl _ (H.at 3 rfl),Ld.c]
        refine newQ H fun b9 M f H => ?_
        simp (disch:=omega) only [go_sem,undef,H.cs,co_cell (H.at 4 rfl),Ly.c,hcl _ (H.at 4 rfl),Ld.c]
        refine stwQ0 H rfl rfl fun M f H => ?_
        have H:Hq m M (coA cb Y C).wp [cellA b9 (.cells (joinA told (attrF C.xcut C.xl l.id x)).cs.toArray T_api_Attr (0,0)),cellA b6 (.cells x.cs.toArray T_api_Command (0,0)),coA cb Y C]:=H.sel 5 [0,3,4] rfl (by decide) (by decide)
        simp (disch:=omega) only [go_sem,undef]
        subst hC
        exact again_b ho hv hl hrec hn hn7 hout H rfl rfl rfl rfl rfl rfl rfl rfl
      · simp (disch:=omega) only [go_sem,undef,H.cs,co_cell (H.at 3 rfl),Ly.c,hcl _ (H.at 3 rfl),Ld.c]
        refine newQ H fun b9 M f H => ?_
        simp (disch:=omega) only [go_sem,undef,H.cs,co_cell (H.at 4 rfl),Ly.c,hcl _ (H.at 4 rfl),Ld.c]
        refine callQ H (join_s (l:=[told,attrF C.xcut C.xl l.id x]) (n:=2) rfl (two_att H.cs.2.1) (by decide) (by decide)) fun M f H => ?_
        simp (disch:=omega) only [go_sem,undef,H.cs,co_cell (H.at 4 rfl),Ly.c,hcl _ (H.at 4 rfl),Ld.c]
        refine stwQ0 H rfl rfl fun M f H => ?_
        have H:Hq m M (coA cb Y C).wp [cellA b9 (.cells (joinA told (attrF C.xcut C.xl l.id x)).cs.toArray T_api_Attr (0,0)),cellA b6 (.cells x.cs.toArray T_api_Command (0,0)),coA cb Y C]:=H.sel 5 [0,3,4] rfl (by decide) (by decide)
        simp (disch:=omega) only [go_sem,undef]
        subst hC
        exact again_b ho hv hl hrec hn hn7 hout H rfl rfl rfl rfl rfl rfl rfl rfl
    · simp (disch:=omega) only [go_sem,undef,H.cs,co_cell (H.at 2 rfl),Ly.c,hcl _ (H.at 2 rfl),Ld.c]
      refine newQ H fun b9 M f H => ?_
      simp (disch:=omega) only [go_sem,undef,H.cs,co_cell (H.at 3 rfl),Ly.c,hcl _ (H.at 3 rfl),Ld.c]
      refine newQ H fun b11 M f H => ?_
      simp (disch:=omega) only [go_sem,undef,H.cs,co_cell (H.at 4 rfl),Ly.c,hcl _ (H.at 4 rfl),Ld.c]
      refine callQ H (join_s (l:=[told,attrF C.xcut C.xl l.id x]) (n:=2) rfl (two_att H.cs.1) (by decide) (by decide)) fun M f H => ?_
      simp (disch:=omega) only [go_sem,undef,H.cs,co_cell (H.at 4 rfl),Ly.c,hcl _ (H.at 4 rfl),Ld.c]
      refine stwQ1 H rfl rfl fun M f H => ?_
      have H:Hq m M (coA cb Y C).wp [cellA b9 (.cells (joinA told (attrF C.xcut C.xl l.id x)).cs.toArray T_api_Attr (0,0)),cellA b6 (.cells x.cs.toArray T_api_Command (0,0)),coA cb Y C]:=H.sel 5 [1,3,4] rfl (by decide) (by decide)
      simp (disch:=omega) only [go_sem,undef]
      subst hC
      exact again_b ho hv hl hrec hn hn7 hout H rfl rfl rfl rfl rfl rfl rfl rfl
  · simp (disch:=omega) only [go_sem,undef,H.cs,co_cell (H.at 2 rfl),Ly.c,hcl _ (H.at 2 rfl),Ld.c]
    refine newQ H fun b9 M f H => ?_
    simp (disch:=omega) only [go_sem,undef,H.cs,co_cell (H.at 3 rfl),Ly.c,hcl _ (H.at 3 rfl),Ld.c]
    refine callQ H (attr_s (co_idx (H.at 3 rfl)) hxl l.id x hkey) fun M f H => ?_
    simp (disch:=omega) only [go_sem,undef,H.cs,co_cell (H.at 3 rfl),Ly.c,hcl _ (H.at 3 rfl),Ld.c]
    refine newQ H fun b11 M f H => ?_
    simp (disch:=omega) only [go_sem,undef,H.cs,co_cell (H.at 4 rfl),Ly.c,hcl _ (H.at 4 rfl),Ld.c]
    refine callQ H (join_s (l:=[told,attrF C.xcut C.xl l.id x]) (n:=2) rfl (two_att H.cs.1) (by decide) (by decide)) fun M f H => ?_
    simp (disch:=omega) only [go_sem,undef,H.cs,co_cell (H.at 4 rfl),Ly.c,hcl _ (H.at 4 rfl),Ld.c]
    refine stwQ1 H rfl rfl fun M f H => ?_
    have H:Hq m M (coA cb Y C).wp [cellA b9 (.cells (joinA told (attrF C.xcut C.xl l.id x)).cs.toArray T_api_Attr (0,0)),cellA b6 (.cells x.cs.toArray T_api_Command (0,0)),coA cb Y C]:=H.sel 5 [1,3,4] rfl (by decide) (by decide)
    simp (disch:=omega) only [go_sem,undef]
    subst hC
    exact again_b ho hv hl hrec hn hn7 hout H rfl rfl rfl rfl rfl rfl rfl rfl
end Go.Fw
namespace Go.Fw
open Go.Proofs
variable {m m0 M:Mem} {S:List Nat} {L:List As}
variable {cb:Nat} {Y:Ly} {C:Co}
/-- what was said to a Prepare is done -/
def Co.prep2 (C:Co) (l:Ld) (d:Int) (x:Cmd) (a:Att):Co :=
  if d = 1 then C.commit l.id x a else if d = 2 then C.accept l x a else if d = 4 then C.accept l Cmd.zero (noopA l.id) else if d = 3 then C.again l x a else C
def Co.prepared (C:Co) (l:Ld):Co:=C.prep2 l (prepQ C.n l.id.1 l.said).1 (prepQ C.n l.id.1 l.said).2.1 (prepQ C.n l.id.1 l.said).2.2
abbrev ppA:NC:=.seq Q78r1 (.block 0 (.seq Q78r2 (.cond (.slot 26) Q78r3 (.seq Q78r4 (.cond (.slot 36) Q78r5 (.seq Q78r6 (.cond (.slot 43) Q78r7 (.seq Q78r8 (.cond (.slot 54) Q78r9 .skip)))))))))
set_option maxHeartbeats 16000000 in
theorem prep_b {C0:Co} {Y0:Ly} {E:Env} {b5 b6 j:Nat} {v:LdV} {l:Ld} {d:Int} {x:Cmd} {a:Att} (ho:Y.ok C) (hv:Y.lds[j]? = some v) (hl:C.leads[j]? = some l) (hxl:IdxOk C.xl) (hkey:x.key.size ≤ 1000) (hrec:C.recs.length ≤ 1000000) (hn:C.leads.length ≤ 100000) (hn7:C.n ≤ 7) (hout:C.out.length ≤ 999000)
    (H:Hq m M (coA cb Y0 C0).wp [cellA b6 (.cells a.cs.toArray T_api_Attr (0,0)),cellA b5 (.cells x.cs.toArray T_api_Command (0,0)),coA cb Y C])
    (e0:E.get 0 = lp cb) (e1:E.get 1 = lp v.b) (e4:E.get 4 = .int .i64 d) (e5:E.get 5 = lp b5) (e6:E.get 6 = lp b6) (h0:E.has 0 = true) (h1:E.has 1 = true) (h4:E.has 4 = true) (h5:E.has 5 = true) (h6:E.has 6 = true) :
    wpN Tryz.prog ppA (retP [] fun u M => ∃ A',CoR cb (C.prep2 l d x a) (.tuple #[]) u A' ∧ A'.p M ∧ Fr m M (coA cb Y0 C0).wp ∧ (∀ b ∈ A'.fp,b ∈ (coA cb Y0 C0).fp ∨ m b = none) ∧ ∀ b ∈ A'.wp,b ∈ (coA cb Y0 C0).wp ∨ m b = none) E M:=by
  have hcl:=ld_cell (lds_at (co_lds (H.at 2 rfl)) hv hl)
  by_cases d1:d = 1
  · have hp:C.prep2 l d x a = C.commit l.id x a:=if_pos d1
    rw [hp]
    simp (disch:=omega) only [go_sem,undef,e0,e1,e4,e5,e6,h0,h1,h4,h5,h6,H.cs,dec_t d1,hcl,Ld.c]
    refine callA 2 H (core_commit_s (H.at 2 rfl) ho l.id x a hrec hn hn7 hout) rfl fun u M A' hR f H => ?_
    refine hR.E fun Y2 eu ho2 eA => ?_
    subst eu eA
    simp (disch:=omega) only [go_sem,undef]
    exact cx_fin co_fw ho2 H.tail.tail
  by_cases d2:d = 2
  · have hp:C.prep2 l d x a = C.accept l x a:=by unfold Co.prep2; rw [if_neg d1,if_pos d2]
    rw [hp]
    simp (disch:=omega) only [go_sem,undef,e0,e1,e4,e5,e6,h0,h1,h4,h5,h6,H.cs,dec_f d1,dec_t d2,hcl,Ld.c]
    refine callA 2 H (core_accept_s (H.at 2 rfl) ho hv hl x a hrec hn hn7 hout) rfl fun u M A' hR f H => ?_
    refine hR.E fun Y2 eu ho2 eA => ?_
    subst eu eA
    simp (disch:=omega) only [go_sem,undef]
    exact cx_fin co_fw ho2 H.tail.tail
  by_cases d4:d = 4
  · have hp:C.prep2 l d x a = C.accept l Cmd.zero (noopA l.id):=by unfold Co.prep2; rw [if_neg d1,if_neg d2,if_pos d4]
    rw [hp]
    simp (disch:=omega) only [go_sem,undef,e0,e1,e4,e5,e6,h0,h1,h4,h5,h6,H.cs,dec_f d1,dec_f d2,dec_t d4,hcl,Ld.c]
    refine callQ H (noop_s l.id _) fun M f H => ?_
    simp (disch:=omega) only [go_sem,undef,e0,e1,e4,e5,e6,h0,h1,h4,h5,h6,H.cs]
    refine callA 2 H (core_accept_s (H.at 2 rfl) ho hv hl Cmd.zero (noopA l.id) hrec hn hn7 hout) rfl fun u M A' hR f H => ?_
    refine hR.E fun Y2 eu ho2 eA => ?_
    subst eu eA
    simp (disch:=omega) only [go_sem,undef]
    exact cx_fin co_fw ho2 H.tail.tail
  by_cases d3:d = 3
  · have hp:C.prep2 l d x a = C.again l x a:=by unfold Co.prep2; rw [if_neg d1,if_neg d2,if_neg d4,if_pos d3]
    rw [hp]
    simp (disch:=omega) only [go_sem,undef,e0,e1,e4,e5,e6,h0,h1,h4,h5,h6,H.cs,dec_f d1,dec_f d2,dec_f d4,dec_t d3,hcl,Ld.c]
    refine callA 2 H (core_again_s (H.at 2 rfl) ho hv hl x a hxl hkey hrec hn hn7 hout) rfl fun u M A' hR f H => ?_
    refine hR.E fun Y2 eu ho2 eA => ?_
    subst eu eA
    simp (disch:=omega) only [go_sem,undef]
    exact cx_fin co_fw ho2 H.tail.tail
  · have hp:C.prep2 l d x a = C:=by unfold Co.prep2; rw [if_neg d1,if_neg d2,if_neg d4,if_neg d3]
    rw [hp]
    simp (disch:=omega) only [go_sem,undef,e0,e1,e4,e5,e6,h0,h1,h4,h5,h6,H.cs,dec_f d1,dec_f d2,dec_f d4,dec_f d3]
    exact cx_fin co_fw ho H.tail.tail
theorem ld_said {v:LdV} {x:Ld} (h:(ldA v x).p m):RdS 22 Sd.cs m v.sd x.said:=Own.rds (by decide) Sd.len (starL_mem h (ownA T_quorum_Said 22 v.sd x.said.length (x.said.flatMap Sd.cs)) (by simp))
theorem sdat_key {l:List Sd} {q:Nat} (h:∀ s ∈ l,s.cel.cmd.key.size ≤ q) (i:Int):(Sd.at l i).cel.cmd.key.size ≤ q:=by
  unfold Sd.at
  cases e:l[i.toNat]? with
  | none => exact Nat.zero_le _
  | some s => exact h s (List.mem_of_getElem? e)
theorem prepQ_key {n:Nat} {o:Int} {l:List Sd} {q:Nat} (h:∀ s ∈ l,s.cel.cmd.key.size ≤ q):(prepQ n o l).2.1.key.size ≤ q:=by
  unfold prepQ
  split
  · exact Nat.zero_le _
  split
  · rename_i s e
    exact h s (List.mem_of_find?_eq_some e)
  repeat' split
  all_goals first
    | exact Nat.zero_le _
    | exact sdat_key h _
theorem prepared_code:Q78c = .seq Q78r0 ppA:=rfl
set_option maxHeartbeats 16000000 in
theorem core_prepared_s (h:(coA cb Y C).p m) (ho:Y.ok C) {j:Nat} {v:LdV} {l:Ld} (hv:Y.lds[j]? = some v) (hl:C.leads[j]? = some l) (hxl:IdxOk C.xl) (hks:∀ s ∈ l.said,s.cel.cmd.key.size ≤ 1000) (hrec:C.recs.length ≤ 1000000) (hn:C.leads.length ≤ 100000) (hn7:C.n ≤ 7) (hn2:2 ≤ C.n) (hout:C.out.length ≤ 999000) (hsl:l.said.length ≤ 100) :
    CM Tryz.prog n_core_Core_prepared [lp cb,lp v.b] m (coA cb Y C) (CoR cb (C.prepared l) (.tuple #[])):=by
  have H:=Hq.one h
  have hw:C.prepared l = C.prep2 l (prepQ C.n l.id.1 l.said).1 (prepQ C.n l.id.1 l.said).2.1 (prepQ C.n l.id.1 l.said).2.2:=rfl
  rw [hw]
  have hkey:=prepQ_key (n:=C.n) (o:=l.id.1) hks
  obtain ⟨ra,rc,hsd⟩:=(ld_said (lds_at (co_lds h) hv hl)).form
  have hpre:=fun M (hA:(coA cb Y C).p M) => prepared_s (n:=C.n) (o:=l.id.1) (hsd ▸ ld_said (lds_at (co_lds hA) hv hl)) (by omega) hn2 hsl
  refine Q78go (by simp [Tryz.f33]) ?_
  rw [prepared_code]
  generalize hC:ppA = T
  generalize prepQ C.n l.id.1 l.said = q at *
  obtain ⟨d,x,a⟩:=q
  have hcl:=fun M (hA:(coA cb Y C).p M) => ld_cell (lds_at (co_lds hA) hv hl)
  simp (disch:=omega) only [go_sem,undef,co_cell (H.at 0 rfl),Ly.c,hcl _ (H.at 0 rfl),Ld.c,hsd]
  refine both_intro ?_ ?_
  · simp (disch:=omega) only [go_sem,undef,H.cs,co_cell (H.at 0 rfl),Ly.c,hcl _ (H.at 0 rfl),Ld.c,hsd]
    refine callQ H (hpre _ (H.at 0 rfl)) fun M f H => ?_
    simp (disch:=omega) only [go_sem,undef,H.cs,co_cell (H.at 0 rfl),Ly.c,hcl _ (H.at 0 rfl),Ld.c,hsd]
    refine both_intro ?_ ?_
    · simp (disch:=omega) only [go_sem,undef,H.cs,co_cell (H.at 0 rfl),Ly.c,hcl _ (H.at 0 rfl),Ld.c,hsd]
      refine newQ H fun b5 M f H => ?_
      simp (disch:=omega) only [go_sem,undef,H.cs,co_cell (H.at 1 rfl),Ly.c,hcl _ (H.at 1 rfl),Ld.c,hsd]
      refine newQ H fun b6 M f H => ?_
      simp (disch:=omega) only [go_sem,undef,H.cs,co_cell (H.at 2 rfl),Ly.c,hcl _ (H.at 2 rfl),Ld.c,hsd]
      refine stwQ1 H rfl rfl fun M f H => ?_
      simp (disch:=omega) only [go_sem,undef,H.cs,co_cell (H.at 2 rfl),Ly.c,hcl _ (H.at 2 rfl),Ld.c,hsd]
      refine stwQ0 H rfl rfl fun M f H => ?_
      have H:Hq m M (coA cb Y C).wp [cellA b6 (.cells a.cs.toArray T_api_Attr (0,0)),cellA b5 (.cells x.cs.toArray T_api_Command (0,0)),coA cb Y C]:=H.sel 3 [0,1,2] rfl (by decide) (by decide)
      simp (disch:=omega) only [go_sem,undef]
      subst hC
      exact prep_b ho hv hl hxl hkey hrec hn hn7 hout H rfl rfl rfl rfl rfl rfl rfl rfl rfl rfl
    · simp (disch:=omega) only [go_sem,undef,H.cs,co_cell (H.at 0 rfl),Ly.c,hcl _ (H.at 0 rfl),Ld.c,hsd]
      refine newQ H fun b6 M f H => ?_
      simp (disch:=omega) only [go_sem,undef,H.cs,co_cell (H.at 1 rfl),Ly.c,hcl _ (H.at 1 rfl),Ld.c,hsd]
      refine newQ H fun b5 M f H => ?_
      simp (disch:=omega) only [go_sem,undef,H.cs,co_cell (H.at 2 rfl),Ly.c,hcl _ (H.at 2 rfl),Ld.c,hsd]
      refine stwQ0 H rfl rfl fun M f H => ?_
      simp (disch:=omega) only [go_sem,undef,H.cs,co_cell (H.at 2 rfl),Ly.c,hcl _ (H.at 2 rfl),Ld.c,hsd]
      refine stwQ1 H rfl rfl fun M f H => ?_
      have H:Hq m M (coA cb Y C).wp [cellA b6 (.cells a.cs.toArray T_api_Attr (0,0)),cellA b5 (.cells x.cs.toArray T_api_Command (0,0)),coA cb Y C]:=H.sel 3 [1,0,2] rfl (by decide) (by decide)
      simp (disch:=omega) only [go_sem,undef]
      subst hC
      exact prep_b ho hv hl hxl hkey hrec hn hn7 hout H rfl rfl rfl rfl rfl rfl rfl rfl rfl rfl
  · refine both_intro ?_ ?_
    · simp (disch:=omega) only [go_sem,undef,H.cs,co_cell (H.at 0 rfl),Ly.c,hcl _ (H.at 0 rfl),Ld.c,hsd]
      refine newQ H fun b5 M f H => ?_
      simp (disch:=omega) only [go_sem,undef,H.cs,co_cell (H.at 1 rfl),Ly.c,hcl _ (H.at 1 rfl),Ld.c,hsd]
      refine both_intro ?_ ?_
      · simp (disch:=omega) only [go_sem,undef,H.cs,co_cell (H.at 1 rfl),Ly.c,hcl _ (H.at 1 rfl),Ld.c,hsd]
        refine callQ H (hpre _ (H.at 1 rfl)) fun M f H => ?_
        simp (disch:=omega) only [go_sem,undef,H.cs,co_cell (H.at 1 rfl),Ly.c,hcl _ (H.at 1 rfl),Ld.c,hsd]
        refine newQ H fun b6 M f H => ?_
        simp (disch:=omega) only [go_sem,undef,H.cs,co_cell (H.at 2 rfl),Ly.c,hcl _ (H.at 2 rfl),Ld.c,hsd]
        refine stwQ1 H rfl rfl fun M f H => ?_
        simp (disch:=omega) only [go_sem,undef,H.cs,co_cell (H.at 2 rfl),Ly.c,hcl _ (H.at 2 rfl),Ld.c,hsd]
        refine stwQ0 H rfl rfl fun M f H => ?_
        have H:Hq m M (coA cb Y C).wp [cellA b6 (.cells a.cs.toArray T_api_Attr (0,0)),cellA b5 (.cells x.cs.toArray T_api_Command (0,0)),coA cb Y C]:=H.sel 3 [0,1,2] rfl (by decide) (by decide)
        simp (disch:=omega) only [go_sem,undef]
        subst hC
        exact prep_b ho hv hl hxl hkey hrec hn hn7 hout H rfl rfl rfl rfl rfl rfl rfl rfl rfl rfl
      · simp (disch:=omega) only [go_sem,undef,H.cs,co_cell (H.at 1 rfl),Ly.c,hcl _ (H.at 1 rfl),Ld.c,hsd]
        refine newQ H fun b6 M f H => ?_
        simp (disch:=omega) only [go_sem,undef,H.cs,co_cell (H.at 2 rfl),Ly.c,hcl _ (H.at 2 rfl),Ld.c,hsd]
        refine callQ H (hpre _ (H.at 2 rfl)) fun M f H => ?_
        simp (disch:=omega) only [go_sem,undef,H.cs,co_cell (H.at 2 rfl),Ly.c,hcl _ (H.at 2 rfl),Ld.c,hsd]
        refine stwQ1 H rfl rfl fun M f H => ?_
        simp (disch:=omega) only [go_sem,undef,H.cs,co_cell (H.at 2 rfl),Ly.c,hcl _ (H.at 2 rfl),Ld.c,hsd]
        refine stwQ0 H rfl rfl fun M f H => ?_
        have H:Hq m M (coA cb Y C).wp [cellA b6 (.cells a.cs.toArray T_api_Attr (0,0)),cellA b5 (.cells x.cs.toArray T_api_Command (0,0)),coA cb Y C]:=H.sel 3 [0,1,2] rfl (by decide) (by decide)
        simp (disch:=omega) only [go_sem,undef]
        subst hC
        exact prep_b ho hv hl hxl hkey hrec hn hn7 hout H rfl rfl rfl rfl rfl rfl rfl rfl rfl rfl
    · simp (disch:=omega) only [go_sem,undef,H.cs,co_cell (H.at 0 rfl),Ly.c,hcl _ (H.at 0 rfl),Ld.c,hsd]
      refine newQ H fun b6 M f H => ?_
      simp (disch:=omega) only [go_sem,undef,H.cs,co_cell (H.at 1 rfl),Ly.c,hcl _ (H.at 1 rfl),Ld.c,hsd]
      refine both_intro ?_ ?_
      · simp (disch:=omega) only [go_sem,undef,H.cs,co_cell (H.at 1 rfl),Ly.c,hcl _ (H.at 1 rfl),Ld.c,hsd]
        refine callQ H (hpre _ (H.at 1 rfl)) fun M f H => ?_
        simp (disch:=omega) only [go_sem,undef,H.cs,co_cell (H.at 1 rfl),Ly.c,hcl _ (H.at 1 rfl),Ld.c,hsd]
        refine newQ H fun b5 M f H => ?_
        simp (disch:=omega) only [go_sem,undef,H.cs,co_cell (H.at 2 rfl),Ly.c,hcl _ (H.at 2 rfl),Ld.c,hsd]
        refine stwQ0 H rfl rfl fun M f H => ?_
        simp (disch:=omega) only [go_sem,undef,H.cs,co_cell (H.at 2 rfl),Ly.c,hcl _ (H.at 2 rfl),Ld.c,hsd]
        refine stwQ1 H rfl rfl fun M f H => ?_
        have H:Hq m M (coA cb Y C).wp [cellA b6 (.cells a.cs.toArray T_api_Attr (0,0)),cellA b5 (.cells x.cs.toArray T_api_Command (0,0)),coA cb Y C]:=H.sel 3 [1,0,2] rfl (by decide) (by decide)
        simp (disch:=omega) only [go_sem,undef]
        subst hC
        exact prep_b ho hv hl hxl hkey hrec hn hn7 hout H rfl rfl rfl rfl rfl rfl rfl rfl rfl rfl
      · simp (disch:=omega) only [go_sem,undef,H.cs,co_cell (H.at 1 rfl),Ly.c,hcl _ (H.at 1 rfl),Ld.c,hsd]
        refine newQ H fun b5 M f H => ?_
        simp (disch:=omega) only [go_sem,undef,H.cs,co_cell (H.at 2 rfl),Ly.c,hcl _ (H.at 2 rfl),Ld.c,hsd]
        refine callQ H (hpre _ (H.at 2 rfl)) fun M f H => ?_
        simp (disch:=omega) only [go_sem,undef,H.cs,co_cell (H.at 2 rfl),Ly.c,hcl _ (H.at 2 rfl),Ld.c,hsd]
        refine stwQ0 H rfl rfl fun M f H => ?_
        simp (disch:=omega) only [go_sem,undef,H.cs,co_cell (H.at 2 rfl),Ly.c,hcl _ (H.at 2 rfl),Ld.c,hsd]
        refine stwQ1 H rfl rfl fun M f H => ?_
        have H:Hq m M (coA cb Y C).wp [cellA b6 (.cells a.cs.toArray T_api_Attr (0,0)),cellA b5 (.cells x.cs.toArray T_api_Command (0,0)),coA cb Y C]:=H.sel 3 [1,0,2] rfl (by decide) (by decide)
        simp (disch:=omega) only [go_sem,undef]
        subst hC
        exact prep_b ho hv hl hxl hkey hrec hn hn7 hout H rfl rfl rfl rfl rfl rfl rfl rfl rfl rfl
end Go.Fw
namespace Go.Fw
open Go.Proofs
variable {m m0 M:Mem} {S:List Nat} {L:List As}
variable {cb:Nat} {Y:Ly} {C:Co}
/-- a lead that one more has answered -/
def Ld.heard (l:Ld) (k:Nat):Ld:={ l with ans:=Dp.up l.ans k 1,count:=l.count + 1 }
theorem Ld.heard_id (l:Ld) (k:Nat):(l.heard k).id = l.id:=rfl
theorem Ld.heard_cmd (l:Ld) (k:Nat):(l.heard k).cmd = l.cmd:=rfl
theorem Ld.heard_att (l:Ld) (k:Nat):(l.heard k).att = l.att:=rfl
theorem Ld.heard_count (l:Ld) (k:Nat):(l.heard k).count = l.count + 1:=rfl
def Ld.repd (l:Ld) (a:Att):Ld:={ l with reps:=l.reps ++ [a] }
def Ld.sayd (l:Ld) (s:Sd):Ld:={ l with said:=l.said ++ [s] }
def Co.put (C:Co) (j:Nat) (l:Ld):Co:={ C with leads:=C.leads.set j l }
theorem Co.put_n (C:Co) (j:Nat) (l:Ld):(C.put j l).n = C.n:=rfl
def Co.ans2 (C:Co) (j:Nat) (l:Ld) (x:Lt) (k:Nat):Co :=
  if wayK x.kind = 0 then ((C.put j ((l.heard k).repd x.att)).weigh ((l.heard k).repd x.att) false).1
  else if wayK x.kind = 1 then (if (C.n / 2 + 1:Nat) ≤ l.count + 2 then (C.put j (l.heard k)).commit l.id l.cmd l.att else C.put j (l.heard k))
  else (C.put j ((l.heard k).sayd ⟨k,x.cel⟩)).prepared ((l.heard k).sayd ⟨k,x.cel⟩)
abbrev anA:NC:=.seq Q48r5 (.seq Q48r6 (.seq Q48r7 (.block 0 (.seq Q48r8 (.cond (.slot 73) (.seq Q48r9 Q48r10) (.seq Q48r11 (.cond (.slot 89) (.seq Q48r12 (.cond (.slot 101) Q48r13 .skip)) (.seq Q48r14 Q48r15))))))))
set_option maxHeartbeats 16000000 in
theorem ans_b {C0:Co} {Y0:Ly} {b3 j k:Nat} {v:LdV} {l:Ld} {x:Lt} (ho:Y.ok C) (hv:Y.lds[j]? = some v) (hl:C.leads[j]? = some l) (hk:x.src = (k:Nat)) (hk7:k < 7) (hxl:IdxOk C.xl) (hrec:C.recs.length ≤ 1000000) (hn:C.leads.length ≤ 100000) (hn7:C.n ≤ 7) (hn2:2 ≤ C.n) (hout:C.out.length ≤ 999000)
    (hcnt:0 ≤ l.count ∧ l.count ≤ 1000) (hreps:l.reps.length ≤ 99) (hsaid:l.said.length ≤ 99) (hks:∀ s ∈ l.said,s.cel.cmd.key.size ≤ 1000) (hkx:x.cel.cmd.key.size ≤ 1000)
    (H:Hq m M (coA cb Y0 C0).wp [cellA b3 (.cells x.cs.toArray T_api_Letter (0,0)),coA cb Y C]) :
    wpN Tryz.prog anA (retP [] fun u M => ∃ A',CoR cb (C.ans2 j l x k) (.tuple #[]) u A' ∧ A'.p M ∧ Fr m M (coA cb Y0 C0).wp ∧ (∀ b ∈ A'.fp,b ∈ (coA cb Y0 C0).fp ∨ m b = none) ∧ ∀ b ∈ A'.wp,b ∈ (coA cb Y0 C0).wp ∨ m b = none) [(0,lp cb),(3,lp b3),(4,lp v.b),(5,.int .i64 (wayK x.kind))] M:=by
  have H:=co_lead hv hl (H.perm (List.Perm.swap ..))
  refine Own.formK (H.at 1 rfl) fun ra rc hrp => ?_
  refine Own.formK (H.at 2 rfl) fun sa sc hsd => ?_
  simp (disch:=omega) only [go_sem,undef,H.cs,Ld.c,hk]
  refine wrQ0 H fun M f H => ?_
  simp (disch:=omega) only [go_sem,undef,H.cs,Ld.c,hk]
  refine wrQ0 H fun M f H => ?_
  have H:Hq m M (coA cb Y0 C0).wp [cellA v.b (.cells ((l.heard k).c v).cs.toArray T_core_lead (0,0)),ownA T_api_Attr 8 v.rp l.reps.length (l.reps.flatMap Att.cs),ownA T_quorum_Said 22 v.sd l.said.length (l.said.flatMap Sd.cs),starL (coR cb Y C j),cellA b3 (.cells x.cs.toArray T_api_Letter (0,0))]:=H
  by_cases w0:wayK x.kind = 0
  · have hp:C.ans2 j l x k = ((C.put j ((l.heard k).repd x.att)).weigh ((l.heard k).repd x.att) false).1:=if_pos w0
    rw [hp]
    simp (disch:=omega) only [go_sem,undef,H.cs,Ld.c,hk,dec_t w0]
    refine newQ H fun b2 M f H => ?_
    simp (disch:=omega) only [go_sem,undef,H.cs,Ld.c,hk]
    refine appQ' 2 H rfl rfl (k:=1) (news:=x.att.cs) (ldS_cell (n:=8) H.cs.1 (Nat.le_refl _)) rfl (fun v hv => List.all_eq_true.1 (Att.one _) v hv) rfl (by omega) (by omega) fun w M f H => ?_
    refine Own.formK (H.at 2 rfl) fun a3 c3 e => ?_
    subst e
    have H:Hq m M (coA cb Y0 C0).wp [cellA v.b (.cells ((l.heard k).c v).cs.toArray T_core_lead (0,0)),ownA T_api_Attr 8 (.slice a3 (l.reps.length + 1) c3) (l.reps.length + 1) (l.reps.flatMap Att.cs ++ x.att.cs),ownA T_quorum_Said 22 v.sd l.said.length (l.said.flatMap Sd.cs),starL (coR cb Y C j),cellA b3 (.cells x.cs.toArray T_api_Letter (0,0))]:=H.tail
    simp (disch:=omega) only [go_sem,undef,H.cs,Ld.c]
    refine wrQ0 H fun M f H => ?_
    have er:ownA T_api_Attr 8 (.slice a3 (l.reps.length + 1) c3) (l.reps.length + 1) (l.reps.flatMap Att.cs ++ x.att.cs) = ownA T_api_Attr 8 (.slice a3 (l.reps.length + 1) c3) ((l.heard k).repd x.att).reps.length (((l.heard k).repd x.att).reps.flatMap Att.cs):=by simp [Ld.repd,Ld.heard]
    rw [er] at H
    have H:=co_back (v':={ v with rp:=.slice a3 (l.reps.length + 1) c3 }) (l':=(l.heard k).repd x.att) hv hl rfl H
    have ho2:({ Y with lds:=Y.lds.set j { v with rp:=.slice a3 (l.reps.length + 1) c3 } }:Ly).ok (C.put j ((l.heard k).repd x.att)):=⟨by simp [Co.put,ho.lds],ho.wss,ho.wb⟩
    have hjv:j < Y.lds.length:=(List.getElem?_eq_some_iff.1 hv).1
    have hjl:j < C.leads.length:=(List.getElem?_eq_some_iff.1 hl).1
    simp (disch:=omega) only [go_sem,undef]
    refine callA 0 H (core_weigh_s (H.at 0 rfl) ho2 (j:=j) (v:={ v with rp:=.slice a3 (l.reps.length + 1) c3 }) (l:=(l.heard k).repd x.att) (by simp [hjv]) (by simp [Co.put,hjl]) false hrec (by simpa [Co.put] using hn) hn7 hout (by simp [Ld.repd,Ld.heard]; omega)) rfl fun u M A' hR f H => ?_
    refine hR.E fun Y2 eu ho3 eA => ?_
    subst eu eA
    simp (disch:=omega) only [go_sem,undef]
    exact cx_fin co_fw ho3 (H.drop 1)
  by_cases w1:wayK x.kind = 1
  · have hjv:j < Y.lds.length:=(List.getElem?_eq_some_iff.1 hv).1
    have hjl:j < C.leads.length:=(List.getElem?_eq_some_iff.1 hl).1
    have H:=co_back (v':=v) (l':=l.heard k) hv hl rfl H
    have ho2:({ Y with lds:=Y.lds.set j v }:Ly).ok (C.put j (l.heard k)):=⟨by simp [Co.put,ho.lds],ho.wss,ho.wb⟩
    have hv2:({ Y with lds:=Y.lds.set j v }:Ly).lds[j]? = some v:=by simp [hjv]
    have hl2:(C.put j (l.heard k)).leads[j]? = some (l.heard k):=by simp [Co.put,hjl]
    have hcl:=ld_cell (lds_at (co_lds (H.at 0 rfl)) hv2 hl2)
    have hcc:=co_cell (H.at 0 rfl)
    have hln:(C.put j (l.heard k)).leads.length ≤ 100000:=by simpa [Co.put] using hn
    have hp:C.ans2 j l x k = if (C.n / 2 + 1:Nat) ≤ l.count + 2 then (C.put j (l.heard k)).commit l.id l.cmd l.att else C.put j (l.heard k):=by unfold Co.ans2; rw [if_neg w0,if_pos w1]
    rw [hp]
    simp (disch:=omega) only [go_sem,undef,H.cs,hcl,hcc,Ly.c,Ld.c,Ld.heard_id,Ld.heard_cmd,Ld.heard_att,Ld.heard_count,Co.put_n,dec_f w0,dec_t w1]
    refine callQ H (slow_s C.n (by omega) _) fun M f H => ?_
    have hcl:=ld_cell (lds_at (co_lds (H.at 0 rfl)) hv2 hl2)
    have hcc:=co_cell (H.at 0 rfl)
    by_cases hs:(C.n / 2 + 1:Nat) ≤ l.count + 2
    · rw [if_pos hs]
      simp (disch:=omega) only [go_sem,undef,H.cs,hcl,hcc,Ly.c,Ld.c,Ld.heard_id,Ld.heard_cmd,Ld.heard_att,Ld.heard_count,Co.put_n,dec_t (show l.count + 1 + 1 ≥ ((C.n / 2 + 1:Nat):Int) by omega)]
      refine callA 0 H (core_commit_s (H.at 0 rfl) ho2 l.id l.cmd l.att hrec hln hn7 hout) rfl fun u M A' hR f H => ?_
      refine hR.E fun Y2 eu ho3 eA => ?_
      subst eu eA
      simp (disch:=omega) only [go_sem,undef]
      exact cx_fin co_fw ho3 (H.drop 1)
    · rw [if_neg hs]
      simp (disch:=omega) only [go_sem,undef,H.cs,hcl,hcc,Ly.c,Ld.c,Ld.heard_id,Ld.heard_cmd,Ld.heard_att,Ld.heard_count,Co.put_n,dec_f (show ¬ l.count + 1 + 1 ≥ ((C.n / 2 + 1:Nat):Int) by omega)]
      exact cx_fin co_fw ho2 (H.drop 1)
  · have hp:C.ans2 j l x k = (C.put j ((l.heard k).sayd ⟨k,x.cel⟩)).prepared ((l.heard k).sayd ⟨k,x.cel⟩):=by unfold Co.ans2; rw [if_neg w0,if_neg w1]
    rw [hp]
    simp (disch:=omega) only [go_sem,undef,H.cs,Ld.c,hk,dec_f w0,dec_f w1]
    refine newQ H fun b2 M f H => ?_
    simp (disch:=omega) only [go_sem,undef,H.cs,Ld.c,hk]
    refine appQ' 3 H rfl rfl (k:=1) (news:=(Sd.mk k x.cel).cs) (ldS_cell (n:=22) H.cs.1 (Nat.le_refl _)) rfl (fun v hv => List.all_eq_true.1 (Sd.one _) v hv) rfl (by omega) (by omega) fun w M f H => ?_
    refine Own.formK (H.at 3 rfl) fun a3 c3 e => ?_
    subst e
    have H:Hq m M (coA cb Y0 C0).wp [cellA v.b (.cells ((l.heard k).c v).cs.toArray T_core_lead (0,0)),ownA T_api_Attr 8 v.rp l.reps.length (l.reps.flatMap Att.cs),ownA T_quorum_Said 22 (.slice a3 (l.said.length + 1) c3) (l.said.length + 1) (l.said.flatMap Sd.cs ++ (Sd.mk k x.cel).cs),starL (coR cb Y C j),cellA b3 (.cells x.cs.toArray T_api_Letter (0,0))]:=H.tail
    simp (disch:=omega) only [go_sem,undef,H.cs,Ld.c]
    refine wrQ0 H fun M f H => ?_
    have er:ownA T_quorum_Said 22 (.slice a3 (l.said.length + 1) c3) (l.said.length + 1) (l.said.flatMap Sd.cs ++ (Sd.mk k x.cel).cs) = ownA T_quorum_Said 22 (.slice a3 (l.said.length + 1) c3) ((l.heard k).sayd ⟨k,x.cel⟩).said.length (((l.heard k).sayd ⟨k,x.cel⟩).said.flatMap Sd.cs):=by simp [Ld.sayd,Ld.heard]
    rw [er] at H
    have H:=co_back (v':={ v with sd:=.slice a3 (l.said.length + 1) c3 }) (l':=(l.heard k).sayd ⟨k,x.cel⟩) hv hl rfl H
    have ho2:({ Y with lds:=Y.lds.set j { v with sd:=.slice a3 (l.said.length + 1) c3 } }:Ly).ok (C.put j ((l.heard k).sayd ⟨k,x.cel⟩)):=⟨by simp [Co.put,ho.lds],ho.wss,ho.wb⟩
    have hjv:j < Y.lds.length:=(List.getElem?_eq_some_iff.1 hv).1
    have hjl:j < C.leads.length:=(List.getElem?_eq_some_iff.1 hl).1
    simp (disch:=omega) only [go_sem,undef]
    refine callA 0 H (core_prepared_s (H.at 0 rfl) ho2 (j:=j) (v:={ v with sd:=.slice a3 (l.said.length + 1) c3 }) (l:=(l.heard k).sayd ⟨k,x.cel⟩) (by simp [hjv]) (by simp [Co.put,hjl]) hxl (fun s hs => (by
      rcases List.mem_append.1 (show s ∈ l.said ++ [Sd.mk k x.cel] from hs) with h | h
      · exact hks s h
      · rw [List.mem_singleton] at h; subst h; exact hkx)) hrec (by simpa [Co.put] using hn) hn7 hn2 hout (by simp [Ld.sayd,Ld.heard]; omega)) rfl fun u M A' hR f H => ?_
    refine hR.E fun Y2 eu ho3 eA => ?_
    subst eu eA
    simp (disch:=omega) only [go_sem,undef]
    exact cx_fin co_fw ho3 (H.drop 1)
end Go.Fw
namespace Go.Fw
open Go.Proofs
variable {m m0 M:Mem} {S:List Nat} {L:List As}
variable {cb:Nat} {Y:Ly} {C:Co}
/-- an answer is taken -/
def Co.ans1 (C:Co) (x:Lt) (k:Nat):Option Nat → Co
  | none => C
  | some j => match C.leads[j]? with
    | none => C
    | some l => if l.bal ≠ x.bal ∨ l.ans.g k ≠ 0 then C else if l.way ≠ wayK x.kind then C else C.ans2 j l x k
def Co.answered (C:Co) (x:Lt):Co:=C.ans1 x x.src.toNat (fdL x.inst C.leads)
abbrev anB:NC:=.seq (.seq Q48r2 (.cond (.slot 30) .ret .skip)) (.seq Q48r3 (.seq (.seq Q48r4 (.cond (.slot 41) .ret .skip)) anA))
theorem answered_code:Q48c = .seq Q48r0 (.seq Q48r1 anB):=rfl
/-- what is known of a lead -/
structure LdOk (l:Ld):Prop where
  cnt:0 ≤ l.count ∧ l.count ≤ 1000
  reps:l.reps.length ≤ 99
  said:l.said.length ≤ 99
  keys:∀ s ∈ l.said,s.cel.cmd.key.size ≤ 1000
set_option maxHeartbeats 16000000 in
theorem core_answered_s (h:(coA cb Y C).p m) (ho:Y.ok C) (x:Lt) (hx0:0 ≤ x.src) (hx7:x.src < 7) (hxl:IdxOk C.xl) (hrec:C.recs.length ≤ 1000000) (hn:C.leads.length ≤ 100000) (hn7:C.n ≤ 7) (hn2:2 ≤ C.n) (hout:C.out.length ≤ 999000)
    (hld:∀ l ∈ C.leads,LdOk l) (hkx:x.cel.cmd.key.size ≤ 1000) :
    CM Tryz.prog n_core_Core_answered [lp cb,x.v] m (coA cb Y C) (CoR cb (C.answered x) (.tuple #[])):=by
  have H:=Hq.one h
  obtain ⟨k,hk⟩:∃ k:Nat,x.src = (k:Nat):=⟨x.src.toNat,by omega⟩
  have hk7:k < 7:=by omega
  have hw:C.answered x = C.ans1 x k (fdL x.inst C.leads):=by unfold Co.answered; rw [hk,Int.toNat_natCast]
  rw [hw]
  refine Q48go (by simp [Tryz.f33]) ?_
  rw [answered_code]
  cases hfd:fdL x.inst C.leads with
  | none =>
    generalize hC:anA = T
    show wpN Tryz.prog (.seq Q48r0 (.seq Q48r1 (.seq (.seq Q48r2 (.cond (.slot 30) .ret .skip)) (.seq Q48r3 (.seq (.seq Q48r4 (.cond (.slot 41) .ret .skip)) anA))))) _ _ _
    rw [hC]
    simp (disch:=omega) only [go_sem,undef]
    refine newQ H fun b3 M f H => ?_
    simp (disch:=omega) only [go_sem,undef,H.cs]
    refine callQ H (find_s (H.at 1 rfl) ho x.inst (by omega)) fun M f H => ?_
    rw [hfd]
    have hpt:ptO Y.lds none = .pointer none:=rfl
    simp (disch:=omega) only [go_sem,undef,H.cs,hpt,Option.isNone_none]
    exact cx_fin co_fw ho H.tail
  | some j =>
    have hjl:j < C.leads.length:=by
      unfold fdL at hfd
      rw [List.findIdx?_eq_some_iff_getElem] at hfd
      exact hfd.1
    have hlen:=ho.lds
    obtain ⟨l,hl⟩:∃ l,C.leads[j]? = some l:=⟨C.leads[j],List.getElem?_eq_getElem hjl⟩
    obtain ⟨v,hv⟩:∃ v,Y.lds[j]? = some v:=⟨Y.lds[j]'(by omega),List.getElem?_eq_getElem (by omega)⟩
    have hpt:ptO Y.lds (some j) = lp v.b:=by simp [ptO,hv]
    have hlk:=hld l (List.mem_of_getElem? hl)
    have hw1:C.ans1 x k (some j) = if l.bal ≠ x.bal ∨ l.ans.g k ≠ 0 then C else if l.way ≠ wayK x.kind then C else C.ans2 j l x k:=by simp only [Co.ans1,hl]
    rw [hw1]
    clear hw hw1
    show wpN Tryz.prog (.seq Q48r0 (.seq Q48r1 (.seq (.seq Q48r2 (.cond (.slot 30) .ret .skip)) (.seq Q48r3 (.seq (.seq Q48r4 (.cond (.slot 41) .ret .skip)) anA))))) _ _ _
    generalize hC3:Q48r3 = T3
    generalize hC:anA = T
    by_cases hbal:l.bal = x.bal
    · by_cases hans:l.ans.g k = 0
      · rw [if_neg (by simp [hbal,hans])]
        simp (disch:=omega) only [go_sem,undef]
        refine newQ H fun b3 M f H => ?_
        simp (disch:=omega) only [go_sem,undef,H.cs]
        refine callQ H (find_s (H.at 1 rfl) ho x.inst (by omega)) fun M f H => ?_
        rw [hfd]
        have hcl:=ld_cell (lds_at (co_lds (H.at 1 rfl)) hv hl)
        simp (disch:=omega) only [go_sem,undef,H.cs,hpt,Option.isNone_some,hcl,Ld.c,hk,dec_t hbal,dec_t hans,dec_f (show ¬ l.bal ≠ x.bal from fun h => h hbal),dec_f (show ¬ l.ans.g k ≠ 0 from fun h => h hans)]
        subst hC3
        refine ans_map H rfl rfl rfl rfl fun M H => ?_
        have hcl:=ld_cell (lds_at (co_lds (H.at 1 rfl)) hv hl)
        by_cases hway:l.way = wayK x.kind
        · rw [if_neg (fun h => h hway)]
          simp (disch:=omega) only [go_sem,undef,H.cs,hcl,Ld.c,dec_f (show ¬ l.way ≠ wayK x.kind from fun h => h hway)]
          subst hC
          exact ans_b ho hv hl hk hk7 hxl hrec hn hn7 hn2 hout hlk.cnt hlk.reps hlk.said hlk.keys hkx H
        · rw [if_pos hway]
          simp (disch:=omega) only [go_sem,undef,H.cs,hcl,Ld.c,dec_t (show l.way ≠ wayK x.kind from hway)]
          exact cx_fin co_fw ho H.tail
      · rw [if_pos (.inr hans)]
        simp (disch:=omega) only [go_sem,undef]
        refine newQ H fun b3 M f H => ?_
        simp (disch:=omega) only [go_sem,undef,H.cs]
        refine callQ H (find_s (H.at 1 rfl) ho x.inst (by omega)) fun M f H => ?_
        rw [hfd]
        have hcl:=ld_cell (lds_at (co_lds (H.at 1 rfl)) hv hl)
        simp (disch:=omega) only [go_sem,undef,H.cs,hpt,Option.isNone_some,hcl,Ld.c,hk,dec_t hbal,dec_f hans,dec_f (show ¬ l.bal ≠ x.bal from fun h => h hbal),dec_t (show l.ans.g k ≠ 0 from hans)]
        exact cx_fin co_fw ho H.tail
    · rw [if_pos (.inl hbal)]
      simp (disch:=omega) only [go_sem,undef]
      refine newQ H fun b3 M f H => ?_
      simp (disch:=omega) only [go_sem,undef,H.cs]
      refine callQ H (find_s (H.at 1 rfl) ho x.inst (by omega)) fun M f H => ?_
      rw [hfd]
      have hcl:=ld_cell (lds_at (co_lds (H.at 1 rfl)) hv hl)
      simp (disch:=omega) only [go_sem,undef,H.cs,hpt,Option.isNone_some,hcl,Ld.c,hk,dec_f hbal,dec_t (show l.bal ≠ x.bal from hbal)]
      exact cx_fin co_fw ho H.tail
end Go.Fw
namespace Go.Fw
open Go.Proofs
variable {m m0 M:Mem} {S:List Nat} {L:List As}
variable {cb:Nat} {Y:Ly} {C:Co}
abbrev oneC (n:Nat) (r:Int):Prop:=0 ≤ r ∧ r < n
/-- what stands at an instance -/
def Co.at (C:Co) (i:Int × Int):Cel:=(lkC i C.lg).getD Cel.zero
/-- may an instance still be committed here? -/
def Co.opn (C:Co) (i:Int × Int):Prop:=rightI i ∧ oneC C.n i.1 ∧ ¬ i.2 ≤ C.cut.g i.1.toNat ∧ (C.at i).st ≠ 3
instance (C:Co) (i:Int × Int):Decidable (C.opn i):=by unfold Co.opn; exact inferInstance
set_option maxHeartbeats 8000000 in
theorem core_open_s (h:(coA cb Y C).p m) (i:Int × Int):MC Tryz.prog n_core_Core_open [lp cb,pv i] m fun u M => u = .bool (decide (C.opn i)) ∧ Fr m M []:=by
  have hc:=co_cell h
  have hl:=co_log h
  have hone:=fun M (f:Fr m M []) => core_one_s ((coA cb Y C).fr0 h f) i.1
  by_cases hr:rightI i
  · by_cases ho:oneC C.n i.1
    · by_cases hg:i.2 ≤ C.cut.g i.1.toNat
      · have hf:¬ C.opn i:=fun h => h.2.2.1 hg
        refine Q34go (by simp [Tryz.f33]) ?_
        have H:=Hq.refl m []
        simp (disch:=omega) only [go_sem,undef]
        refine newQ H fun b M f H => ?_
        simp (disch:=omega) only [go_sem,undef,H.cs]
        refine callQ H (inst_Right_s i _) fun M f H => ?_
        simp (disch:=omega) only [go_sem,undef,H.cs,dec_t hr,Bool.not_true]
        refine callQ H (hone _ H.fr) fun M f H => ?_
        simp (disch:=omega) only [go_sem,undef,H.cs,H.fr.get0 hc,Ly.c,dec_t ho,Bool.not_true]
        refine callQ H (log_Gone_s ((logA ..).fr0 hl H.fr) i) fun M f H => ?_
        simp (disch:=omega) only [go_sem,undef,H.cs,dec_t (show rightI i ∧ i.2 ≤ C.cut.g i.1.toNat from ⟨hr,hg⟩)]
        exact ⟨by rw [decide_eq_false hf],H.fr⟩
      · have hst:C.opn i ↔ ((lkC i C.lg).getD Cel.zero).st ≠ 3:=⟨fun h => h.2.2.2,fun h => ⟨hr,ho,hg,h⟩⟩
        have hgo:¬ (rightI i ∧ i.2 ≤ C.cut.g i.1.toNat):=fun h => hg h.2
        refine Q34go (by simp [Tryz.f33]) ?_
        have H:=Hq.refl m []
        simp (disch:=omega) only [go_sem,undef]
        refine newQ H fun b M f H => ?_
        simp (disch:=omega) only [go_sem,undef,H.cs]
        refine callQ H (inst_Right_s i _) fun M f H => ?_
        simp (disch:=omega) only [go_sem,undef,H.cs,dec_t hr,Bool.not_true]
        refine callQ H (hone _ H.fr) fun M f H => ?_
        simp (disch:=omega) only [go_sem,undef,H.cs,H.fr.get0 hc,Ly.c,dec_t ho,Bool.not_true]
        refine callQ H (log_Gone_s ((logA ..).fr0 hl H.fr) i) fun M f H => ?_
        simp (disch:=omega) only [go_sem,undef,H.cs,dec_f hgo,H.fr.get0 hc,Ly.c]
        refine both_intro ?_ ?_
        · simp (disch:=omega) only [go_sem,undef,H.cs,H.fr.get0 hc,Ly.c]
          refine callQ H (log_Cell_s ((logA ..).fr0 hl H.fr) i) fun M f H => ?_
          simp (disch:=omega) only [go_sem,undef,H.cs,H.fr.get0 hc,Ly.c]
          refine newQ H fun b4 M f H => ?_
          simp (disch:=omega) only [go_sem,undef,H.cs,H.fr.get0 hc,Ly.c]
          refine stwQ0 H rfl rfl fun M f H => ?_
          simp (disch:=omega) only [go_sem,undef,H.cs]
          exact ⟨congrArg Value.bool ((decide_eq_decide.2 hst).trans decide_not).symm,H.fr⟩
        · simp (disch:=omega) only [go_sem,undef,H.cs,H.fr.get0 hc,Ly.c]
          refine newQ H fun b4 M f H => ?_
          simp (disch:=omega) only [go_sem,undef,H.cs,H.fr.get0 hc,Ly.c]
          refine callQ H (log_Cell_s ((logA ..).fr0 hl H.fr) i) fun M f H => ?_
          simp (disch:=omega) only [go_sem,undef,H.cs,H.fr.get0 hc,Ly.c]
          refine stwQ0 H rfl rfl fun M f H => ?_
          simp (disch:=omega) only [go_sem,undef,H.cs]
          exact ⟨congrArg Value.bool ((decide_eq_decide.2 hst).trans decide_not).symm,H.fr⟩
    · have hf:¬ C.opn i:=fun h => ho h.2.1
      refine Q34go (by simp [Tryz.f33]) ?_
      have H:=Hq.refl m []
      simp (disch:=omega) only [go_sem,undef]
      refine newQ H fun b M f H => ?_
      simp (disch:=omega) only [go_sem,undef,H.cs]
      refine callQ H (inst_Right_s i _) fun M f H => ?_
      simp (disch:=omega) only [go_sem,undef,H.cs,dec_t hr,Bool.not_true]
      refine callQ H (hone _ H.fr) fun M f H => ?_
      simp (disch:=omega) only [go_sem,undef,H.cs,dec_f ho,Bool.not_false]
      exact ⟨by rw [decide_eq_false hf],H.fr⟩
  · have hf:¬ C.opn i:=fun h => hr h.1
    refine Q34go (by simp [Tryz.f33]) ?_
    have H:=Hq.refl m []
    simp (disch:=omega) only [go_sem,undef]
    refine newQ H fun b M f H => ?_
    simp (disch:=omega) only [go_sem,undef,H.cs]
    refine callQ H (inst_Right_s i _) fun M f H => ?_
    simp (disch:=omega) only [go_sem,undef,H.cs,dec_f hr,Bool.not_false]
    exact ⟨by rw [decide_eq_false hf],H.fr⟩
theorem ws_cell {b:Nat} {x:Wsh} (h:(wsA b x).p m):m b = some (.cells x.cs.toArray T_core_wish (0,0)):=cell_of h
theorem co_wss (h:(coA cb Y C).p m):(wssA Y.wss C.wishes).p m:=starL_mem h _ (by simp)
theorem wss_at {vs:List Nat} {xs:List Wsh} {j:Nat} {b:Nat} {x:Wsh} (h:(wssA vs xs).p m) (hv:vs[j]? = some b) (hx:xs[j]? = some x):(wsA b x).p m:=by
  refine starL_mem h _ (List.mem_of_getElem? (i:=j) ?_)
  rw [List.getElem?_zipWith,hv,hx]
def ptW (vs:List Nat):Option Nat → Value
  | some j => match vs[j]? with
    | some b => lp b
    | none => .pointer none
  | none => .pointer none
def fdW (i:Int × Int) (l:List Wsh):Option Nat:=l.findIdx? fun x => decide (x.id = i)
set_option maxHeartbeats 4000000 in
theorem wished_s (h:(coA cb Y C).p m) (ho:Y.ok C) (i:Int × Int) (hn:C.wishes.length ≤ 1000000):MC Tryz.prog n_core_Core_wished [lp cb,pv i] m fun u M => u = ptW Y.wss (fdW i C.wishes) ∧ Fr m M []:=by
  have hrow:=co_wrow h
  obtain ⟨a,c,hv⟩:=hrow.form
  have hrd:RdS 1 ptV m Y.wv Y.wss:=Own.rds (by decide) (fun _ => rfl) hrow
  have hc:=co_cell h
  have hlds:=co_wss h
  have hlen:=ho.wss
  generalize Y.wss = vs at *
  refine Q36go (by simp [Tryz.f33]) ?_
  have H:=Hq.refl m []
  simp (disch:=omega) only [go_sem,undef]
  refine newQ H fun b M f H => ?_
  simp (disch:=omega) only [go_sem,undef,H.fr.get0 hc,Ly.c,hv]
  rw [hv] at hrd
  refine loopQ_intro (fun k E m' => ∃ (j:Nat),j ≤ vs.length ∧ k = vs.length - j ∧ (∀ t y,t < j → C.wishes[t]? = some y → decide (y.id = i) = false) ∧ E = [(3,.pointer (some ⟨b,0,none⟩)),(10,.slice a vs.length c),(11,.int .i64 (vs.length:Nat)),(12,.int .i64 (j:Nat))] ∧ Hq m m' [] [cellA b (.cells (pc i).toArray T_api_Inst)]) vs.length rfl ⟨0,by omega,rfl,by simp,rfl,H⟩ ?_
  clear H f
  rintro k E M1 ⟨j,hj,rfl,hno,rfl,H⟩
  by_cases hlt:j < vs.length
  · refine RdS.elK (hrd.frame H.fr) hlt (by decide) fun bx o v hvj hix hE => ?_
    have hp0:(ptV v)[0]? = some (lp v):=rfl
    refine Exists.elim (⟨C.wishes[j]'(by omega),List.getElem?_eq_getElem (by omega)⟩:∃ x,C.wishes[j]? = some x) fun x hx => ?_
    have hcl:=H.fr.get0 (ws_cell (wss_at hlds hvj hx))
    by_cases hid:x.id = i
    · have hfd:fdW i C.wishes = some j:=fi_some hno hx (by simp [hid])
      simp (disch:=omega) only [go_sem,undef,dec_t (show ((j:Nat):Int) < (vs.length:Nat) by omega),hix,hE.ld0,hp0,H.cs,hcl,dec_t hid]
      exact ⟨by rw [hfd]; simp [ptW,hvj],H.fr⟩
    · simp (disch:=omega) only [go_sem,undef,dec_t (show ((j:Nat):Int) < (vs.length:Nat) by omega),hix,hE.ld0,hp0,H.cs,hcl,dec_f hid]
      refine handN_intro (vs.length - (j + 1)) (by omega) ⟨j + 1,by omega,rfl,fun t y ht hy => ?_,rfl,H⟩
      rcases Nat.lt_or_eq_of_le (Nat.le_of_lt_succ ht) with h | h
      · exact hno t y h hy
      · subst h; rw [hx] at hy; cases hy; simp [hid]
  · have e:j = vs.length:=by omega
    subst e
    have hfd:fdW i C.wishes = none:=fi_none fun t y ht hy => hno t y (by omega) hy
    simp (disch:=omega) only [go_sem,undef,dec_f (show ¬ ((vs.length:Nat):Int) < (vs.length:Nat) by omega)]
    exact ⟨by rw [hfd]; rfl,H.fr⟩
end Go.Fw
namespace Go.Fw
open Go.Proofs
variable {m m0 M:Mem} {S:List Nat} {L:List As}
variable {cb:Nat} {Y:Ly} {C:Co}
def posW (i:Int × Int) (l:List Wsh):Nat:=(l.takeWhile fun y => decide (lt2 y.id i)).length
theorem posW_le (i:Int × Int) (l:List Wsh):posW i l ≤ l.length:=(List.takeWhile_sublist _).length_le
theorem posW_lt {i:Int × Int}:∀ {l:List Wsh} {j:Nat} {y:Wsh},j < posW i l → l[j]? = some y → lt2 y.id i
  | [],j,y,h,_ => by simp [posW] at h
  | a :: r,j,y,h,hy => by
    by_cases ha:lt2 a.id i
    · cases j with
      | zero => simp at hy; subst hy; exact ha
      | succ j => exact posW_lt (l:=r) (j:=j) (by simpa [posW,List.takeWhile_cons,ha] using h) (by simpa using hy)
    · simp [posW,List.takeWhile_cons,ha] at h
theorem posW_at {i:Int × Int}:∀ {l:List Wsh} {y:Wsh},l[posW i l]? = some y → ¬ lt2 y.id i
  | [],y,h => by simp at h
  | a :: r,y,h => by
    by_cases ha:lt2 a.id i
    · have e:posW i (a :: r) = posW i r + 1:=by simp [posW,List.takeWhile_cons,ha]
      rw [e] at h
      exact posW_at (l:=r) (by simpa using h)
    · have e:posW i (a :: r) = 0:=by simp [posW,List.takeWhile_cons,ha]
      rw [e] at h
      simp at h; subst h; exact ha
abbrev Co.wants (C:Co) (i:Int × Int):Prop:=C.opn i ∧ fdW i C.wishes = none ∧ C.wishes.length < 256
/-- an instance is waited for -/
def Co.want (C:Co) (b:Nat) (i:Int × Int):Co:=if C.wants i then { C with wishes:=insF C.wishes (posW i C.wishes) ⟨i,0,(0,0)⟩,wb:=insF C.wb (posW i C.wishes) b } else C
theorem wss_ins {vs:List Nat} {xs:List Wsh} {v:Nat} {x:Wsh} (j:Nat) (hl:vs.length = xs.length) (H:Hq m0 m S (wsA v x :: wssA vs xs :: L)):Hq m0 m S (wssA (insF vs j v) (insF xs j x) :: L):=by
  have H:=Hq.splitL (l:=List.zipWith wsA vs xs) (H.perm (List.Perm.swap ..))
  refine Hq.joinL (l:=List.zipWith wsA (insF vs j v) (insF xs j x)) ?_
  rw [zip_ins wsA v x j vs xs hl]
  have hp:(List.zipWith wsA vs xs ++ wsA v x :: L).Perm (insF (List.zipWith wsA vs xs) j (wsA v x) ++ L) :=
    List.perm_middle.trans ((insF_perm (List.zipWith wsA vs xs) j (wsA v x)).symm.append_right L)
  exact H.perm hp.symm
theorem fdW_le {i:Int × Int} {l:List Wsh} {j:Nat} (h:fdW i l = some j):j < l.length:=by
  unfold fdW at h
  rw [List.findIdx?_eq_some_iff_getElem] at h
  exact h.1
theorem Wsh.lay_i (p:Int × Int):lay [.int .i64 0,.int .i64 0,.int .i64 0,.int .i64 0,.int .i64 0] [(0,2)] [.agg (pc p).toArray] = some (⟨p,0,(0,0)⟩:Wsh).cs:=rfl
theorem Wsh.lay_j (c:Wsh) (p:Int × Int):lay c.cs [(0,2)] [.agg (pc p).toArray] = some ({ c with id:=p }:Wsh).cs:=rfl
attribute [go_sem ↓] Wsh.lay_i
attribute [go_sem] Wsh.lay_j
abbrev waA:NC:=.seq (.block 0 (.loop [0,3,5] Q62l0)) (.seq Q62r6 (.seq Q62r7 .ret))
set_option maxHeartbeats 16000000 in
theorem want_b {C0:Co} {Y0:Ly} {b3:Nat} {i:Int × Int} (ho:Y.ok C) (hn:C.wishes.length < 256)
    (H:Hq m M (coA cb Y0 C0).wp [cellA b3 (.cells (pc i).toArray T_api_Inst (0,0)),coA cb Y C]) :
    wpN Tryz.prog waA (retP [.slot 4] fun u M => ∃ A',(∃ b,CoR cb { C with wishes:=insF C.wishes (posW i C.wishes) ⟨i,0,(0,0)⟩,wb:=insF C.wb (posW i C.wishes) b } (.bool true) u A') ∧ A'.p M ∧ Fr m M (coA cb Y0 C0).wp ∧ (∀ b ∈ A'.fp,b ∈ (coA cb Y0 C0).fp ∨ m b = none) ∧ ∀ b ∈ A'.wp,b ∈ (coA cb Y0 C0).wp ∨ m b = none) [(0,lp cb),(3,lp b3),(5,.int .i64 0)] M:=by
  have hple:=posW_le i C.wishes
  have hplt:∀ j y,j < posW i C.wishes → C.wishes[j]? = some y → lt2 y.id i:=fun j y h hy => posW_lt h hy
  have hpat:∀ y,C.wishes[posW i C.wishes]? = some y → ¬ lt2 y.id i:=fun y hy => posW_at hy
  generalize posW i C.wishes = p at *
  have hend:∀ (E1:Env) (j:Nat),j = p → E1.get 0 = lp cb → E1.get 3 = lp b3 → E1.get 5 = .int .i64 (j:Nat) → E1.has 0 = true → E1.has 3 = true → E1.has 5 = true →
      ∀ M1,Hq m M1 (coA cb Y0 C0).wp [cellA b3 (.cells (pc i).toArray T_api_Inst (0,0)),coA cb Y C] →
      wpN Tryz.prog (.seq Q62r6 (.seq Q62r7 .ret)) (retP [.slot 4] fun u M => ∃ A',(∃ b,CoR cb { C with wishes:=insF C.wishes p ⟨i,0,(0,0)⟩,wb:=insF C.wb p b } (.bool true) u A') ∧ A'.p M ∧ Fr m M (coA cb Y0 C0).wp ∧ (∀ b ∈ A'.fp,b ∈ (coA cb Y0 C0).fp ∨ m b = none) ∧ ∀ b ∈ A'.wp,b ∈ (coA cb Y0 C0).wp ∨ m b = none) E1 M1:=by
    intro E1 j e g0 g3 g5 k0 k3 k5 M1 H
    have hlen:=ho.wss
    have hc:=co_cell (H.at 1 rfl)
    refine Own.formK (co_wrow (H.at 1 rfl)) fun a c hv => ?_
    simp (disch:=omega) only [go_sem,undef,g0,g3,g5,k0,k3,k5,H.cs,hc,Ly.c,hv]
    refine newQ H fun b8 M f H => ?_
    have H:Hq m M (coA cb Y0 C0).wp [wsA b8 ⟨i,0,(0,0)⟩,cellA b3 (.cells (pc i).toArray T_api_Inst (0,0)),coA cb Y C]:=H
    have hc:=co_cell (H.at 2 rfl)
    simp (disch:=omega) only [go_sem,undef,g0,g3,g5,k0,k3,k5,H.cs,hc,Ly.c,hv]
    refine newQ H fun b9 M f H => ?_
    have hb9:=H.cs.1
    have H:Hq m M (coA cb Y0 C0).wp (coA cb Y C :: [cellA b9 (.cells [lp b8].toArray T_P_core_wish (0,0)),wsA b8 ⟨i,0,(0,0)⟩]):=H.sel 4 [3,0,1] rfl (by decide) (by decide)
    have hc2:=co_cell (H.at 0 rfl)
    have H:=Hq.coS H
    have hap:Apart (ownA T_P_core_wish 1 Y.wv Y.wss.length (Y.wss.flatMap ptV)) (cellA b9 (.cells [lp b8].toArray T_P_core_wish (0,0))):=H.apart 4 9 11 rfl (by decide) (by decide) (by decide)
    have hins:=insW_s (v:=Y.wv) (l:=Y.wss) (b0:=b9) (x:=b8) (H.at 4 rfl) hb9 (fun hb => hap.2 b9 (by simp) hb) p (by omega) (by omega)
    have hargs:[Y.wv,Value.int .i64 (p:Nat),.slice (some ⟨b9,0,none⟩) 1 1] = [.slice a Y.wss.length c,Value.int .i64 (j:Nat),.slice (some ⟨b9,0,none⟩) 1 1]:=by rw [hv,e]
    rw [hargs] at hins
    simp (disch:=omega) only [go_sem,undef,g0,g3,g5,k0,k3,k5,hc2,Ly.c,hv]
    refine callA 4 H hins rfl fun u M2 A' eA f H => ?_
    subst eA
    refine Own.formK (H.at 4 rfl) fun a2 c2 e2 => Exists.elim (⟨_,rfl⟩:∃ n',n' = (insF Y.wss p b8).length) fun n' hn' => ?_
    rw [← hn'] at e2
    subst e2
    have H:Hq m M2 (coA cb Y0 C0).wp [cellA cb (.cells (Y.c C).cs.toArray T_core_Core (0,0)),logA Y.lb Y.lr C.cut C.lg,idxA Y.xb Y.xr C.xcut C.xl,ownA T_P_core_lead 1 Y.lv Y.lds.length (Y.lds.flatMap fun v => ptV v.b),ownA T_P_core_wish 1 (.slice a2 n' c2) (insF Y.wss p b8).length ((insF Y.wss p b8).flatMap ptV),brA T_S_uint8 Y.rv Y.rs C.recs,ownA T_api_Letter 51 Y.ov C.out.length (C.out.flatMap Lt.cs),ldsA Y.lds C.leads,wssA Y.wss C.wishes,cellA b9 (.cells [lp b8].toArray T_P_core_wish (0,0)),wsA b8 ⟨i,0,(0,0)⟩]:=H
    simp (disch:=omega) only [go_sem,undef,g0,g3,g5,k0,k3,k5,H.cs,Ly.c]
    refine wrQ0 H fun M3 f H => ?_
    have H:Hq m M3 (coA cb Y0 C0).wp (wsA b8 ⟨i,0,(0,0)⟩ :: wssA Y.wss C.wishes :: [cellA cb (.cells (Ly.c { Y with wv:=.slice a2 n' c2,wss:=insF Y.wss p b8 } { C with wishes:=insF C.wishes p ⟨i,0,(0,0)⟩,wb:=insF C.wb p b8 }).cs.toArray T_core_Core (0,0)),logA Y.lb Y.lr C.cut C.lg,idxA Y.xb Y.xr C.xcut C.xl,ownA T_P_core_lead 1 Y.lv Y.lds.length (Y.lds.flatMap fun v => ptV v.b),ownA T_P_core_wish 1 (.slice a2 n' c2) (insF Y.wss p b8).length ((insF Y.wss p b8).flatMap ptV),brA T_S_uint8 Y.rv Y.rs C.recs,ownA T_api_Letter 51 Y.ov C.out.length (C.out.flatMap Lt.cs),ldsA Y.lds C.leads]):=H.sel 11 [10,8,0,1,2,3,4,5,6,7] rfl (by decide) (by decide)
    have H:=wss_ins p hlen H
    have H:Hq m M3 (coA cb Y0 C0).wp (coL cb { Y with wv:=.slice a2 n' c2,wss:=insF Y.wss p b8 } { C with wishes:=insF C.wishes p ⟨i,0,(0,0)⟩,wb:=insF C.wb p b8 } ++ []):=H.sel 9 [1,2,3,4,5,6,7,8,0] rfl (by decide) (by decide)
    have H:=Hq.coJ H
    simp (disch:=omega) only [go_sem,undef]
    have hfin:=cx_fin (V:=.bool true) co_fw (Y':={ Y with wv:=.slice a2 n' c2,wss:=insF Y.wss p b8 }) (C':={ C with wishes:=insF C.wishes p ⟨i,0,(0,0)⟩,wb:=insF C.wb p b8 }) ⟨ho.lds,by rw [insF_len _ _ _ (by omega),insF_len _ _ _ hple,hlen],by rw [ho.wb]⟩ H
    obtain ⟨A',h1,h2⟩:=hfin
    exact ⟨A',⟨b8,h1⟩,h2⟩
  show wpN Tryz.prog (.seq (.block 0 (.loop [0,3,5] Q62l0)) (.seq Q62r6 (.seq Q62r7 .ret))) _ _ _
  generalize hC:(NC.seq Q62r6 (.seq Q62r7 .ret)) = T at *
  simp (disch:=omega) only [go_sem,undef]
  refine loopQ_intro (fun k E m' => ∃ j,j ≤ p ∧ k = p - j ∧ E = [(0,lp cb),(3,lp b3),(5,.int .i64 (j:Nat))] ∧ Hq m m' (coA cb Y0 C0).wp [cellA b3 (.cells (pc i).toArray T_api_Inst (0,0)),coA cb Y C]) p rfl ⟨0,by omega,rfl,rfl,H⟩ ?_
  clear H
  rintro k E M1 ⟨j,hj,rfl,rfl,H⟩
  have hc:=co_cell (H.at 1 rfl)
  have hrow:=co_wrow (H.at 1 rfl)
  have hlen:=ho.wss
  have hlds:=co_wss (H.at 1 rfl)
  have hrd:RdS 1 ptV M1 Y.wv Y.wss:=Own.rds (by decide) (fun _ => rfl) hrow
  refine Own.formK hrow fun a c hv => ?_
  rw [hv] at hrd
  by_cases hjl:j < Y.wss.length
  · refine RdS.elK hrd hjl (by decide) fun bx o w hw hix hE => ?_
    have hp0:(ptV w)[0]? = some (lp w):=rfl
    refine Exists.elim (⟨C.wishes[j],List.getElem?_eq_getElem (by omega)⟩:∃ y,C.wishes[j]? = some y) fun y hy => ?_
    have hcy:=ws_cell (wss_at hlds hw hy)
    by_cases hjp:j < p
    · have hless:=hplt j y hjp hy
      simp (disch:=omega) only [go_sem,undef,hc,Ly.c,hv,dec_t (show ((j:Nat):Int) < (Y.wss.length:Nat) by omega),hix,hE.ld0,hp0,hcy,H.cs]
      refine callQ H (inst_Less_s y.id i _) fun M f H => ?_
      simp (disch:=omega) only [go_sem,undef,dec_t hless]
      exact handN_intro (p - (j + 1)) (by omega) ⟨j + 1,by omega,rfl,rfl,H⟩
    · have e:j = p:=by omega
      have hless:=hpat y (by rw [← e]; exact hy)
      simp (disch:=omega) only [go_sem,undef,hc,Ly.c,hv,dec_t (show ((j:Nat):Int) < (Y.wss.length:Nat) by omega),hix,hE.ld0,hp0,hcy,H.cs]
      refine callQ H (inst_Less_s y.id i _) fun M f H => ?_
      simp (disch:=omega) only [go_sem,undef,dec_f hless]
      exact hend _ j e rfl rfl rfl rfl rfl rfl _ H
  · have e:j = p:=by omega
    simp (disch:=omega) only [go_sem,undef,hc,Ly.c,hv,dec_f (show ¬ ((j:Nat):Int) < (Y.wss.length:Nat) by omega)]
    exact hend _ j e rfl rfl rfl rfl rfl rfl _ H
end Go.Fw
namespace Go.Fw
open Go.Proofs
variable {m m0 M:Mem} {S:List Nat} {L:List As}
variable {cb:Nat} {Y:Ly} {C:Co}
theorem want_code:Q62c = .seq Q62r0 (.seq (.seq Q62r1 (.cond (.slot 23) (.seq Q62r2 .ret) .skip)) (.seq Q62r3 waA)):=rfl
theorem cm_ex {A:As} {V:Value} {Y':Ly} {C':Nat → Co} (b:Nat) (hfw:A.fp = A.wp) (ho:Y'.ok (C' b)) (H:Hq m M A.wp [coA cb Y' (C' b)]) :
    ∃ A',(∃ b,CoR cb (C' b) V V A') ∧ A'.p M ∧ Fr m M A.wp ∧ (∀ b ∈ A'.fp,b ∈ A.fp ∨ m b = none) ∧ ∀ b ∈ A'.wp,b ∈ A.wp ∨ m b = none:=by
  obtain ⟨A',h1,h2⟩:=cx_fin (V:=V) hfw ho H
  exact ⟨A',⟨b,h1⟩,h2⟩
set_option maxHeartbeats 16000000 in
theorem core_Want_s (h:(coA cb Y C).p m) (ho:Y.ok C) (i:Int × Int) (hn:C.wishes.length ≤ 100000) :
    CM Tryz.prog n_core_Core_Want [lp cb,pv i] m (coA cb Y C) (fun u A => ∃ b,CoR cb (C.want b i) (.bool (decide (C.wants i))) u A):=by
  have H:=Hq.one h
  have hlen:=ho.wss
  refine Own.formK (co_wrow h) fun a c hv => ?_
  refine Q62go (by simp [Tryz.f33]) ?_
  rw [want_code]
  generalize hC:waA = T
  by_cases h1:C.opn i
  · have h2o:(∃ j,fdW i C.wishes = some j) ∨ fdW i C.wishes = none:=by
      cases fdW i C.wishes with
      | none => exact .inr rfl
      | some j => exact .inl ⟨j,rfl⟩
    rcases h2o with ⟨j,h2⟩ | h2
    ·
      have hw:¬ C.wants i:=fun h => by have h4:=h.2.1; rw [h2] at h4; cases h4
      have hwt:∀ b,C.want b i = C:=fun b => if_neg hw
      have hjl:=fdW_le h2
      refine Exists.elim (⟨Y.wss[j]'(by omega),List.getElem?_eq_getElem (by omega)⟩:∃ v,Y.wss[j]? = some v) fun v hvj => ?_
      have hpt:ptW Y.wss (some j) = lp v:=by simp [ptW,hvj]
      simp only [hwt]
      rw [decide_eq_false hw]
      simp (disch:=omega) only [go_sem,undef]
      refine newQ H fun b3 M f H => ?_
      simp (disch:=omega) only [go_sem,undef,H.cs]
      refine callQ H (core_open_s (H.at 1 rfl) i) fun M f H => ?_
      simp (disch:=omega) only [go_sem,undef,H.cs,dec_t h1,Bool.not_true]
      refine callQ H (wished_s (H.at 1 rfl) ho i (by omega)) fun M f H => ?_
      rw [h2]
      simp (disch:=omega) only [go_sem,undef,H.cs,hpt,pnn_t]
      exact cm_ex (C':=fun _ => C) 0 co_fw ho H.tail
    ·
      have hpt:ptW Y.wss none = .pointer none:=rfl
      by_cases h3:C.wishes.length < 256
      · have hw:C.wants i:=⟨h1,h2,h3⟩
        have hwt:∀ b,C.want b i = { C with wishes:=insF C.wishes (posW i C.wishes) ⟨i,0,(0,0)⟩,wb:=insF C.wb (posW i C.wishes) b }:=fun b => if_pos hw
        simp only [hwt]
        rw [decide_eq_true hw]
        simp (disch:=omega) only [go_sem,undef]
        refine newQ H fun b3 M f H => ?_
        simp (disch:=omega) only [go_sem,undef,H.cs]
        refine callQ H (core_open_s (H.at 1 rfl) i) fun M f H => ?_
        simp (disch:=omega) only [go_sem,undef,H.cs,dec_t h1,Bool.not_true]
        refine callQ H (wished_s (H.at 1 rfl) ho i (by omega)) fun M f H => ?_
        rw [h2]
        simp (disch:=omega) only [go_sem,undef,H.cs,hpt,pnn_f,co_cell (H.at 1 rfl),Ly.c,hv,dec_f (show ¬ ((Y.wss.length:Nat):Int) ≥ 256 by omega)]
        subst hC
        exact want_b ho h3 H
      · have hw:¬ C.wants i:=fun h => h3 h.2.2
        have hwt:∀ b,C.want b i = C:=fun b => if_neg hw
        simp only [hwt]
        rw [decide_eq_false hw]
        simp (disch:=omega) only [go_sem,undef]
        refine newQ H fun b3 M f H => ?_
        simp (disch:=omega) only [go_sem,undef,H.cs]
        refine callQ H (core_open_s (H.at 1 rfl) i) fun M f H => ?_
        simp (disch:=omega) only [go_sem,undef,H.cs,dec_t h1,Bool.not_true]
        refine callQ H (wished_s (H.at 1 rfl) ho i (by omega)) fun M f H => ?_
        rw [h2]
        simp (disch:=omega) only [go_sem,undef,H.cs,hpt,pnn_f,co_cell (H.at 1 rfl),Ly.c,hv,dec_t (show ((Y.wss.length:Nat):Int) ≥ 256 by omega)]
        exact cm_ex (C':=fun _ => C) 0 co_fw ho H.tail
  · have hw:¬ C.wants i:=fun h => h1 h.1
    have hwt:∀ b,C.want b i = C:=fun b => if_neg hw
    simp only [hwt]
    rw [decide_eq_false hw]
    simp (disch:=omega) only [go_sem,undef]
    refine newQ H fun b3 M f H => ?_
    simp (disch:=omega) only [go_sem,undef,H.cs]
    refine callQ H (core_open_s (H.at 1 rfl) i) fun M f H => ?_
    simp (disch:=omega) only [go_sem,undef,H.cs,dec_f h1,Bool.not_false]
    exact cm_ex (C':=fun _ => C) 0 co_fw ho H.tail
end Go.Fw
