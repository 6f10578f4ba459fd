import Derived.Test.YtimedjfpihdffaaGreatCpX
set_option linter.unusedVariables false
set_option linter.unusedSimpArgs false
namespace Go.Fw
open Go.Proofs
variable {m m0 M:Mem} {S:List Nat} {L:List As}
variable {cb:Nat} {Y:Ly} {C:Co}
theorem lay16 (a b:Att):lay [.int .i64 0,.int .i64 0,.int .i64 0,.int .i64 0,.int .i64 0,.int .i64 0,.int .i64 0,.int .i64 0,.int .i64 0,.int .i64 0,.int .i64 0,.int .i64 0,.int .i64 0,.int .i64 0,.int .i64 0,.int .i64 0] [(0,8),(8,8)] [.agg a.cs.toArray,.agg b.cs.toArray] = some (a.cs ++ b.cs):=rfl
attribute [go_sem ↓] lay16
theorem two_att {b:Nat} {x y:Att} {T:TypeId} (hb:m b = some (.cells (x.cs ++ y.cs).toArray T (0,0))):RdS 8 Att.cs m (.slice (some ⟨b,0,none⟩) 2 2) [x,y] :=
  ⟨Att.len,_,_,rfl,by simp,.inr ⟨b,0,rfl,fun i v hv => by
    rw [hb,cellAt_cells,Nat.zero_add,List.getElem?_toArray]; simpa using hv⟩⟩
def okL (x:Lt) (a:Att):Lt:={ Lt.zero with kind:=2,inst:=x.inst,bal:=x.bal,att:=a }
/-- a proposal is taken, with these attributes -/
def Co.pre2 (C:Co) (x:Lt) (a:Att):Co :=
  if rightA a then
    if (C.set x.inst ⟨1,x.bal,x.bal,x.cmd,a,decide (x.bal = (0,0) ∧ a = x.att)⟩).2 = true then (C.set x.inst ⟨1,x.bal,x.bal,x.cmd,a,decide (x.bal = (0,0) ∧ a = x.att)⟩).1.send x.src (okL x a)
    else (C.set x.inst ⟨1,x.bal,x.bal,x.cmd,a,decide (x.bal = (0,0) ∧ a = x.att)⟩).1
  else C
abbrev peA:NC:=.seq Q75r6 (.seq (.seq Q75r7 (.cond (.slot 68) .ret .skip)) (.seq Q75r8 Q75r9))
set_option maxHeartbeats 8000000 in
theorem pre_b {C0:Co} {Y0:Ly} {E:Env} {b5 b8 b9:Nat} {x:Lt} {a a0:Att} (ho:Y.ok C) (hrec:C.recs.length ≤ 1000000) (hout:C.out.length ≤ 999000)
    (H:Hq m M (coA cb Y0 C0).wp [cellA b9 (.cells a.cs.toArray T_api_Attr (0,0)),cellA b8 (.cells (okL x a0).cs.toArray T_api_Letter (0,0)),cellA b5 (.cells x.cs.toArray T_api_Letter (0,0)),coA cb Y C])
    (e0:E.get 0 = lp cb) (e5:E.get 5 = lp b5) (e8:E.get 8 = lp b8) (e9:E.get 9 = lp b9) (h0:E.has 0 = true) (h5:E.has 5 = true) (h8:E.has 8 = true) (h9:E.has 9 = true) :
    wpN Tryz.prog peA (retP [] fun u M => ∃ A',CoR cb (C.pre2 x a) (.tuple #[]) u A' ∧ A'.p M ∧ Fr m M (coA cb Y0 C0).wp ∧ (∀ b ∈ A'.fp,b ∈ (coA cb Y0 C0).fp ∨ m b = none) ∧ ∀ b ∈ A'.wp,b ∈ (coA cb Y0 C0).wp ∨ m b = none) E M:=by
  have hsame:∃ s:Bool,s = decide (x.bal = (0,0) ∧ a = x.att):=⟨_,rfl⟩
  obtain ⟨s,hs⟩:=hsame
  by_cases hr:rightA a
  · have hp:C.pre2 x a = if (C.set x.inst ⟨1,x.bal,x.bal,x.cmd,a,s⟩).2 = true then (C.set x.inst ⟨1,x.bal,x.bal,x.cmd,a,s⟩).1.send x.src (okL x a) else (C.set x.inst ⟨1,x.bal,x.bal,x.cmd,a,s⟩).1:=by rw [hs]; exact if_pos hr
    rw [hp]
    have hss:=coset_same C x.inst ⟨1,x.bal,x.bal,x.cmd,a,s⟩
    have key:∀ (E1:Env),E1.get 0 = lp cb → E1.get 5 = lp b5 → E1.get 8 = lp b8 → E1.get 9 = lp b9 → E1.get 10 = .bool s → E1.has 0 = true → E1.has 5 = true → E1.has 8 = true → E1.has 9 = true → E1.has 10 = true →
        wpN Tryz.prog (.seq (.seq Q75r7 (.cond (.slot 68) .ret .skip)) (.seq Q75r8 Q75r9)) (retP [] fun u M => ∃ A',CoR cb (if (C.set x.inst ⟨1,x.bal,x.bal,x.cmd,a,s⟩).2 = true then (C.set x.inst ⟨1,x.bal,x.bal,x.cmd,a,s⟩).1.send x.src (okL x a) else (C.set x.inst ⟨1,x.bal,x.bal,x.cmd,a,s⟩).1) (.tuple #[]) u A' ∧ A'.p M ∧ Fr m M (coA cb Y0 C0).wp ∧ (∀ b ∈ A'.fp,b ∈ (coA cb Y0 C0).fp ∨ m b = none) ∧ ∀ b ∈ A'.wp,b ∈ (coA cb Y0 C0).wp ∨ m b = none) E1 M:=by
      intro E1 g0 g5 g8 g9 g10 k0 k5 k8 k9 k10
      simp (disch:=omega) only [go_sem,undef,g0,g5,g8,g9,g10,k0,k5,k8,k9,k10,H.cs]
      refine callQ H (deps_Right_s a _) fun M f H => ?_
      simp (disch:=omega) only [go_sem,undef,g0,g5,g8,g9,g10,k0,k5,k8,k9,k10,H.cs,dec_t hr,Bool.not_true]
      refine callA 3 H (core_set_s (H.at 3 rfl) ho x.inst ⟨1,x.bal,x.bal,x.cmd,a,s⟩ hrec) rfl fun u M A' hR f H => ?_
      refine hR.E fun Y1 eu ho1 eA => ?_
      subst eu eA
      clear hR hp
      generalize C.set x.inst ⟨1,x.bal,x.bal,x.cmd,a,s⟩ = r at *
      obtain ⟨C1,ok⟩:=r
      have Hn:Hq m M (coA cb Y0 C0).wp [cellA b9 (.cells a.cs.toArray T_api_Attr (0,0)),cellA b8 (.cells (okL x a0).cs.toArray T_api_Letter (0,0)),cellA b5 (.cells x.cs.toArray T_api_Letter (0,0)),coA cb Y1 C1]:=H
      clear H
      cases ok with
      | true =>
        have H:=Hn
        simp (disch:=omega) only [go_sem,undef,g0,g5,g8,g9,g10,k0,k5,k8,k9,k10,H.cs,Bool.not_true]
        refine stQ1 H (Nat.le_of_ble_eq_true rfl) rfl fun M f H => ?_
        have H:Hq m M (coA cb Y0 C0).wp [cellA b9 (.cells a.cs.toArray T_api_Attr (0,0)),cellA b8 (.cells (okL x a).cs.toArray T_api_Letter (0,0)),cellA b5 (.cells x.cs.toArray T_api_Letter (0,0)),coA cb Y1 C1]:=H
        simp (disch:=omega) only [go_sem,undef,H.cs]
        refine callA 3 H (send_s (H.at 3 rfl) ho1 x.src (okL x a) (Nat.le_trans (Nat.le_of_eq (congrArg List.length hss.2.2.1)) (Nat.le_trans hout (by decide)))) rfl fun u M A' hR f H => ?_
        refine hR.E fun Y2 eu ho2 eA => ?_
        subst eu eA
        simp (disch:=omega) only [go_sem,undef]
        exact cx_fin co_fw ho2 (H.tail.tail.tail)
      | false =>
        have H:=Hn
        simp (disch:=omega) only [go_sem,undef,g0,g5,g8,g9,g10,k0,k5,k8,k9,k10,H.cs,Bool.not_false]
        exact cx_fin co_fw ho1 (H.tail.tail.tail)
    show wpN Tryz.prog (.seq Q75r6 (.seq (.seq Q75r7 (.cond (.slot 68) .ret .skip)) (.seq Q75r8 Q75r9))) _ E M
    generalize hC:(NC.seq (.seq Q75r7 (.cond (.slot 68) .ret .skip)) (.seq Q75r8 Q75r9)) = T at *
    by_cases hb:x.bal = (0,0)
    · simp (disch:=omega) only [go_sem,undef,e0,e5,e8,e9,h0,h5,h8,h9,H.cs,dec_t hb]
      exact key _ rfl rfl rfl rfl (by rw [hs]; simp [hb,Env.get]) rfl rfl rfl rfl rfl
    · simp (disch:=omega) only [go_sem,undef,e0,e5,e8,e9,h0,h5,h8,h9,H.cs,dec_f hb]
      exact key _ rfl rfl rfl rfl (by rw [hs]; simp [hb,Env.get]) rfl rfl rfl rfl rfl
  · have hp:C.pre2 x a = C:=if_neg hr
    rw [hp]
    by_cases hb:x.bal = (0,0)
    · simp (disch:=omega) only [go_sem,undef,e0,e5,e8,e9,h0,h5,h8,h9,H.cs,dec_t hb]
      refine callQ H (deps_Right_s a _) fun M f H => ?_
      simp (disch:=omega) only [go_sem,undef,e0,e5,e8,e9,h0,h5,h8,h9,H.cs,dec_f hr,Bool.not_false]
      exact cx_fin co_fw ho (H.tail.tail.tail)
    · simp (disch:=omega) only [go_sem,undef,e0,e5,e8,e9,h0,h5,h8,h9,H.cs,dec_f hb]
      refine callQ H (deps_Right_s a _) fun M f H => ?_
      simp (disch:=omega) only [go_sem,undef,e0,e5,e8,e9,h0,h5,h8,h9,H.cs,dec_f hr,Bool.not_false]
      exact cx_fin co_fw ho (H.tail.tail.tail)
end Go.Fw
namespace Go.Fw
open Go.Proofs
variable {m m0 M:Mem} {S:List Nat} {L:List As}
variable {cb:Nat} {Y:Ly} {C:Co}
def Co.pre (C:Co) (x:Lt) (c:Cel) (own:Bool):Co:=if own = true then (if c.st = 1 then C.send x.src (okL x c.att) else C) else C.pre2 x (joinA x.att (attrF C.xcut C.xl x.inst x.cmd))
theorem pre_code:Q75c = .seq Q75r0 (.seq Q75r1 (.seq (.seq Q75r2 (.cond (.slot 18) (.seq (.seq Q75r3 (.cond (.slot 21) Q75r4 .skip)) .ret) .skip)) (.seq Q75r5 peA))):=rfl
set_option maxHeartbeats 16000000 in
theorem core_pre_s (h:(coA cb Y C).p m) (ho:Y.ok C) (x:Lt) (c:Cel) (own:Bool) (hxl:IdxOk C.xl) (hkey:x.cmd.key.size ≤ 1000) (hrec:C.recs.length ≤ 1000000) (hout:C.out.length ≤ 999000) :
    CM Tryz.prog n_core_Core_pre [lp cb,x.v,c.v,.bool own] m (coA cb Y C) (CoR cb (C.pre x c own) (.tuple #[])):=by
  have H:=Hq.one h
  cases own with
  | true =>
    have hp:C.pre x c true = if c.st = 1 then C.send x.src (okL x c.att) else C:=rfl
    rw [hp]
    refine Q75go (by simp [Tryz.f33]) ?_
    simp (disch:=omega) only [go_sem,undef]
    refine newQ H fun b5 M f H => ?_
    simp (disch:=omega) only [go_sem,undef]
    refine newQ H fun b6 M f H => ?_
    simp (disch:=omega) only [go_sem,undef,H.cs]
    refine newQ H fun b8 M f H => ?_
    simp (disch:=omega) only [go_sem,undef,H.cs]
    refine stwQ0 H rfl rfl fun M f H => ?_
    have H:Hq m M (coA cb Y C).wp [cellA b8 (.cells (okL x c.att).cs.toArray T_api_Letter (0,0)),cellA b6 (.cells c.cs.toArray T_api_Cell (0,0)),cellA b5 (.cells x.cs.toArray T_api_Letter (0,0)),coA cb Y C]:=H
    by_cases hs:c.st = 1
    · rw [if_pos hs]
      simp (disch:=omega) only [go_sem,undef,H.cs,dec_t hs]
      refine callA 3 H (send_s (H.at 3 rfl) ho x.src (okL x c.att) (by omega)) rfl fun u M A' hR f H => ?_
      refine hR.E fun Y2 eu ho2 eA => ?_
      subst eu eA
      simp (disch:=omega) only [go_sem,undef]
      exact cx_fin co_fw ho2 (H.tail.tail.tail)
    · rw [if_neg hs]
      simp (disch:=omega) only [go_sem,undef,H.cs,dec_f hs]
      exact cx_fin co_fw ho (H.tail.tail.tail)
  | false =>
    have hp:C.pre x c false = C.pre2 x (joinA x.att (attrF C.xcut C.xl x.inst x.cmd)):=rfl
    rw [hp]
    refine Q75go (by simp [Tryz.f33]) ?_
    rw [pre_code]
    generalize hC:peA = T
    simp (disch:=omega) only [go_sem,undef]
    refine newQ H fun b5 M f H => ?_
    simp (disch:=omega) only [go_sem,undef]
    refine newQ H fun b6 M f H => ?_
    simp (disch:=omega) only [go_sem,undef,H.cs]
    refine newQ H fun b8 M f H => ?_
    simp (disch:=omega) only [go_sem,undef,H.cs]
    refine stwQ0 H rfl rfl fun M f H => ?_
    have H:Hq m M (coA cb Y C).wp [cellA b8 (.cells (okL x c.att).cs.toArray T_api_Letter (0,0)),cellA b6 (.cells c.cs.toArray T_api_Cell (0,0)),cellA b5 (.cells x.cs.toArray T_api_Letter (0,0)),coA cb Y C]:=H
    simp (disch:=omega) only [go_sem,undef,H.cs,co_cell (H.at 3 rfl),Ly.c]
    refine both_intro ?_ ?_
    · simp (disch:=omega) only [go_sem,undef,H.cs,co_cell (H.at 3 rfl),Ly.c]
      refine callQ H (attr_s (co_idx (H.at 3 rfl)) hxl x.inst x.cmd hkey) fun M f H => ?_
      simp (disch:=omega) only [go_sem,undef,H.cs,co_cell (H.at 3 rfl),Ly.c]
      refine both_intro ?_ ?_
      · simp (disch:=omega) only [go_sem,undef,H.cs,co_cell (H.at 3 rfl),Ly.c]
        refine newQ H fun b11 M f H => ?_
        simp (disch:=omega) only [go_sem,undef,H.cs,co_cell (H.at 4 rfl),Ly.c]
        refine both_intro ?_ ?_
        · simp (disch:=omega) only [go_sem,undef,H.cs,co_cell (H.at 4 rfl),Ly.c]
          refine callQ H (join_s (l:=[x.att,attrF C.xcut C.xl x.inst x.cmd]) (n:=2) rfl (two_att H.cs.1) (by decide) (by decide)) fun M f H => ?_
          simp (disch:=omega) only [go_sem,undef,H.cs,co_cell (H.at 4 rfl),Ly.c]
          refine newQ H fun b9 M f H => ?_
          simp (disch:=omega) only [go_sem,undef,H.cs,co_cell (H.at 5 rfl),Ly.c]
          refine stwQ0 H rfl rfl fun M f H => ?_
          have H:Hq m M (coA cb Y C).wp [cellA b9 (.cells (joinA x.att (attrF C.xcut C.xl x.inst x.cmd)).cs.toArray T_api_Attr (0,0)),cellA b8 (.cells (okL x c.att).cs.toArray T_api_Letter (0,0)),cellA b5 (.cells x.cs.toArray T_api_Letter (0,0)),coA cb Y C]:=H.sel 6 [0,2,4,5] rfl (by decide) (by decide)
          simp (disch:=omega) only [go_sem,undef]
          subst hC
          exact pre_b ho hrec hout H rfl rfl rfl rfl rfl rfl rfl rfl
        · simp (disch:=omega) only [go_sem,undef,H.cs,co_cell (H.at 4 rfl),Ly.c]
          refine newQ H fun b9 M f H => ?_
          simp (disch:=omega) only [go_sem,undef,H.cs,co_cell (H.at 5 rfl),Ly.c]
          refine callQ H (join_s (l:=[x.att,attrF C.xcut C.xl x.inst x.cmd]) (n:=2) rfl (two_att H.cs.2.1) (by decide) (by decide)) fun M f H => ?_
          simp (disch:=omega) only [go_sem,undef,H.cs,co_cell (H.at 5 rfl),Ly.c]
          refine stwQ0 H rfl rfl fun M f H => ?_
          have H:Hq m M (coA cb Y C).wp [cellA b9 (.cells (joinA x.att (attrF C.xcut C.xl x.inst x.cmd)).cs.toArray T_api_Attr (0,0)),cellA b8 (.cells (okL x c.att).cs.toArray T_api_Letter (0,0)),cellA b5 (.cells x.cs.toArray T_api_Letter (0,0)),coA cb Y C]:=H.sel 6 [0,2,4,5] rfl (by decide) (by decide)
          simp (disch:=omega) only [go_sem,undef]
          subst hC
          exact pre_b ho hrec hout H rfl rfl rfl rfl rfl rfl rfl rfl
      · simp (disch:=omega) only [go_sem,undef,H.cs,co_cell (H.at 3 rfl),Ly.c]
        refine newQ H fun b9 M f H => ?_
        simp (disch:=omega) only [go_sem,undef,H.cs,co_cell (H.at 4 rfl),Ly.c]
        refine newQ H fun b11 M f H => ?_
        simp (disch:=omega) only [go_sem,undef,H.cs,co_cell (H.at 5 rfl),Ly.c]
        refine callQ H (join_s (l:=[x.att,attrF C.xcut C.xl x.inst x.cmd]) (n:=2) rfl (two_att H.cs.1) (by decide) (by decide)) fun M f H => ?_
        simp (disch:=omega) only [go_sem,undef,H.cs,co_cell (H.at 5 rfl),Ly.c]
        refine stwQ1 H rfl rfl fun M f H => ?_
        have H:Hq m M (coA cb Y C).wp [cellA b9 (.cells (joinA x.att (attrF C.xcut C.xl x.inst x.cmd)).cs.toArray T_api_Attr (0,0)),cellA b8 (.cells (okL x c.att).cs.toArray T_api_Letter (0,0)),cellA b5 (.cells x.cs.toArray T_api_Letter (0,0)),coA cb Y C]:=H.sel 6 [1,2,4,5] rfl (by decide) (by decide)
        simp (disch:=omega) only [go_sem,undef]
        subst hC
        exact pre_b ho hrec hout H rfl rfl rfl rfl rfl rfl rfl rfl
    · simp (disch:=omega) only [go_sem,undef,H.cs,co_cell (H.at 3 rfl),Ly.c]
      refine newQ H fun b9 M f H => ?_
      simp (disch:=omega) only [go_sem,undef,H.cs,co_cell (H.at 4 rfl),Ly.c]
      refine callQ H (attr_s (co_idx (H.at 4 rfl)) hxl x.inst x.cmd hkey) fun M f H => ?_
      simp (disch:=omega) only [go_sem,undef,H.cs,co_cell (H.at 4 rfl),Ly.c]
      refine newQ H fun b11 M f H => ?_
      simp (disch:=omega) only [go_sem,undef,H.cs,co_cell (H.at 5 rfl),Ly.c]
      refine callQ H (join_s (l:=[x.att,attrF C.xcut C.xl x.inst x.cmd]) (n:=2) rfl (two_att H.cs.1) (by decide) (by decide)) fun M f H => ?_
      simp (disch:=omega) only [go_sem,undef,H.cs,co_cell (H.at 5 rfl),Ly.c]
      refine stwQ1 H rfl rfl fun M f H => ?_
      have H:Hq m M (coA cb Y C).wp [cellA b9 (.cells (joinA x.att (attrF C.xcut C.xl x.inst x.cmd)).cs.toArray T_api_Attr (0,0)),cellA b8 (.cells (okL x c.att).cs.toArray T_api_Letter (0,0)),cellA b5 (.cells x.cs.toArray T_api_Letter (0,0)),coA cb Y C]:=H.sel 6 [1,2,4,5] rfl (by decide) (by decide)
      simp (disch:=omega) only [go_sem,undef]
      subst hC
      exact pre_b ho hrec hout H rfl rfl rfl rfl rfl rfl rfl rfl
end Go.Fw
namespace Go.Fw
open Go.Proofs
variable {m m0 M:Mem} {S:List Nat} {L:List As}
variable {cb:Nat} {Y:Ly} {C:Co}
def aokL (x:Lt):Lt:={ Lt.zero with kind:=4,inst:=x.inst,bal:=x.bal }
def prpL (x:Lt) (c:Cel):Lt:={ Lt.zero with kind:=7,inst:=x.inst,bal:=x.bal,cel:=c }
def Co.acc2 (C:Co) (x:Lt) (done:Bool):Co :=
  if done = true then C.send x.src (aokL x) else
  if (C.set x.inst ⟨2,x.bal,x.bal,x.cmd,x.att,false⟩).2 = true then (C.set x.inst ⟨2,x.bal,x.bal,x.cmd,x.att,false⟩).1.send x.src (aokL x) else (C.set x.inst ⟨2,x.bal,x.bal,x.cmd,x.att,false⟩).1
def Co.prp2 (C:Co) (x:Lt) (c:Cel):Co :=
  if c.pr = x.bal then C.send x.src (prpL x c) else
  if (C.set x.inst { c with pr:=x.bal }).2 = true then (C.set x.inst { c with pr:=x.bal }).1.send x.src (prpL x { c with pr:=x.bal }) else (C.set x.inst { c with pr:=x.bal }).1
def Co.ask3 (C:Co) (x:Lt) (c:Cel) (own:Bool):Co :=
  if x.kind = 1 then C.pre x c own else if x.kind = 3 then C.acc2 x (own && decide (c.st = 2)) else if x.kind = 6 then C.prp2 x c else C
abbrev akA:NC:=.seq Q45r10 (.block 0 (.seq Q45r11 (.cond (.slot 78) Q45r12 (.seq Q45r13 (.cond (.slot 85) (.seq Q45r14 (.seq Q45r15 (.cond (.slot 108) Q45r16 .skip))) (.seq Q45r17 (.cond (.slot 118) (.seq (.seq Q45r18 (.cond (.slot 124) (.seq Q45r19 (.seq Q45r20 (.cond (.slot 133) .ret .skip))) .skip)) Q45r21) .skip)))))))
set_option maxHeartbeats 16000000 in
theorem asked_c {C0:Co} {Y0:Ly} {E:Env} {b3 b4:Nat} {x:Lt} {c:Cel} {own:Bool} (ho:Y.ok C) (hxl:IdxOk C.xl) (hkey:x.cmd.key.size ≤ 1000) (hrec:C.recs.length ≤ 1000000) (hout:C.out.length ≤ 999000)
    (H:Hq m M (coA cb Y0 C0).wp [cellA b4 (.cells c.cs.toArray T_api_Cell (0,0)),cellA b3 (.cells x.cs.toArray T_api_Letter (0,0)),coA cb Y C])
    (e0:E.get 0 = lp cb) (e3:E.get 3 = lp b3) (e4:E.get 4 = lp b4) (e7:E.get 7 = .bool own) (h0:E.has 0 = true) (h3:E.has 3 = true) (h4:E.has 4 = true) (h7:E.has 7 = true) :
    wpN Tryz.prog akA (retP [] fun u M => ∃ A',CoR cb (C.ask3 x c own) (.tuple #[]) u A' ∧ A'.p M ∧ Fr m M (coA cb Y0 C0).wp ∧ (∀ b ∈ A'.fp,b ∈ (coA cb Y0 C0).fp ∨ m b = none) ∧ ∀ b ∈ A'.wp,b ∈ (coA cb Y0 C0).wp ∨ m b = none) E M:=by
  by_cases k1:x.kind = 1
  · have hp:C.ask3 x c own = C.pre x c own:=if_pos k1
    rw [hp]
    simp (disch:=omega) only [go_sem,undef,e0,e3,e4,e7,h0,h3,h4,h7,H.cs,dec_t k1]
    refine callA 2 H (core_pre_s (H.at 2 rfl) ho x c own hxl hkey hrec hout) rfl fun u M A' hR f H => ?_
    refine hR.E fun Y2 eu ho2 eA => ?_
    subst eu eA
    simp (disch:=omega) only [go_sem,undef]
    exact cx_fin co_fw ho2 (H.tail.tail)
  by_cases k3:x.kind = 3
  · have hp:C.ask3 x c own = C.acc2 x (own && decide (c.st = 2)):=by unfold Co.ask3; rw [if_neg k1,if_pos k3]
    rw [hp]
    have hss:=coset_same C x.inst ⟨2,x.bal,x.bal,x.cmd,x.att,false⟩
    have hpick:∃ d:Bool,d = (own && decide (c.st = 2)):=⟨_,rfl⟩
    obtain ⟨d,hd⟩:=hpick
    rw [← hd]
    cases d with
    | true =>
      have hd2:=Bool.and_eq_true_iff.1 hd.symm
      have hst:c.st = 2:=of_decide_eq_true hd2.2
      have hown:=hd2.1
      subst hown
      have ha:C.acc2 x true = C.send x.src (aokL x):=rfl
      rw [ha]
      simp (disch:=omega) only [go_sem,undef,e0,e3,e4,e7,h0,h3,h4,h7,H.cs,dec_f k1,dec_t k3,dec_t hst]
      refine callA 2 H (send_s (H.at 2 rfl) ho x.src (aokL x) (by omega)) rfl fun u M A' hR f H => ?_
      refine hR.E fun Y2 eu ho2 eA => ?_
      subst eu eA
      simp (disch:=omega) only [go_sem,undef]
      exact cx_fin co_fw ho2 (H.tail.tail)
    | false =>
      have ha:C.acc2 x false = if (C.set x.inst ⟨2,x.bal,x.bal,x.cmd,x.att,false⟩).2 = true then (C.set x.inst ⟨2,x.bal,x.bal,x.cmd,x.att,false⟩).1.send x.src (aokL x) else (C.set x.inst ⟨2,x.bal,x.bal,x.cmd,x.att,false⟩).1:=rfl
      rw [ha]
      have key:∀ (E1:Env),E1.get 0 = lp cb → E1.get 3 = lp b3 → E1.get 8 = .bool false → E1.has 0 = true → E1.has 3 = true → E1.has 8 = true →
          wpN Tryz.prog (.seq Q45r15 (.cond (.slot 108) Q45r16 .skip)) (blockN 0 (retP [] fun u M => ∃ A',CoR cb (if (C.set x.inst ⟨2,x.bal,x.bal,x.cmd,x.att,false⟩).2 = true then (C.set x.inst ⟨2,x.bal,x.bal,x.cmd,x.att,false⟩).1.send x.src (aokL x) else (C.set x.inst ⟨2,x.bal,x.bal,x.cmd,x.att,false⟩).1) (.tuple #[]) u A' ∧ A'.p M ∧ Fr m M (coA cb Y0 C0).wp ∧ (∀ b ∈ A'.fp,b ∈ (coA cb Y0 C0).fp ∨ m b = none) ∧ ∀ b ∈ A'.wp,b ∈ (coA cb Y0 C0).wp ∨ m b = none)) E1 M:=by
        intro E1 g0 g3 g8 i0 i3 i8
        simp (disch:=omega) only [go_sem,undef,g0,g3,g8,i0,i3,i8,H.cs]
        refine callA 2 H (core_set_s (H.at 2 rfl) ho x.inst ⟨2,x.bal,x.bal,x.cmd,x.att,false⟩ hrec) rfl fun u M A' hR f H => ?_
        refine hR.E fun Y1 eu ho1 eA => ?_
        subst eu eA
        clear hR ha hp
        generalize C.set x.inst ⟨2,x.bal,x.bal,x.cmd,x.att,false⟩ = r at *
        obtain ⟨C1,ok⟩:=r
        have Hn:Hq m M (coA cb Y0 C0).wp [cellA b4 (.cells c.cs.toArray T_api_Cell (0,0)),cellA b3 (.cells x.cs.toArray T_api_Letter (0,0)),coA cb Y1 C1]:=H
        clear H
        cases ok with
        | true =>
          have H:=Hn
          simp (disch:=omega) only [go_sem,undef,g0,g3,g8,i0,i3,i8,H.cs]
          refine callA 2 H (send_s (H.at 2 rfl) ho1 x.src (aokL x) (Nat.le_trans (Nat.le_of_eq (congrArg List.length hss.2.2.1)) (Nat.le_trans hout (by decide)))) rfl fun u M A' hR f H => ?_
          refine hR.E fun Y2 eu ho2 eA => ?_
          subst eu eA
          simp (disch:=omega) only [go_sem,undef]
          exact cx_fin co_fw ho2 (H.tail.tail)
        | false =>
          have H:=Hn
          simp (disch:=omega) only [go_sem,undef,g0,g3,g8,i0,i3,i8,H.cs]
          exact cx_fin co_fw ho1 (H.tail.tail)
      show wpN Tryz.prog (.seq Q45r10 (.block 0 (.seq Q45r11 (.cond (.slot 78) Q45r12 (.seq Q45r13 (.cond (.slot 85) (.seq Q45r14 (.seq Q45r15 (.cond (.slot 108) Q45r16 .skip))) (.seq Q45r17 (.cond (.slot 118) (.seq (.seq Q45r18 (.cond (.slot 124) (.seq Q45r19 (.seq Q45r20 (.cond (.slot 133) .ret .skip))) .skip)) Q45r21) .skip)))))))) _ E M
      generalize hC:(NC.seq Q45r15 (.cond (.slot 108) Q45r16 .skip)) = T at *
      cases own with
      | true =>
        have hst:¬ c.st = 2:=fun h => by rw [decide_eq_true h] at hd; cases hd
        simp (disch:=omega) only [go_sem,undef,e0,e3,e4,e7,h0,h3,h4,h7,H.cs,dec_f k1,dec_t k3,dec_f hst]
        exact key _ rfl rfl rfl rfl rfl rfl
      | false =>
        simp (disch:=omega) only [go_sem,undef,e0,e3,e4,e7,h0,h3,h4,h7,H.cs,dec_f k1,dec_t k3]
        exact key _ rfl rfl rfl rfl rfl rfl
  by_cases k6:x.kind = 6
  · have hp:C.ask3 x c own = C.prp2 x c:=by unfold Co.ask3; rw [if_neg k1,if_neg k3,if_pos k6]
    rw [hp]
    by_cases hpb:c.pr = x.bal
    · have ha:C.prp2 x c = C.send x.src (prpL x c):=if_pos hpb
      rw [ha]
      simp (disch:=omega) only [go_sem,undef,e0,e3,e4,e7,h0,h3,h4,h7,H.cs,dec_f k1,dec_f k3,dec_t k6,dec_t hpb,Bool.not_true]
      refine callA 2 H (send_s (H.at 2 rfl) ho x.src (prpL x c) (by omega)) rfl fun u M A' hR f H => ?_
      refine hR.E fun Y2 eu ho2 eA => ?_
      subst eu eA
      simp (disch:=omega) only [go_sem,undef]
      exact cx_fin co_fw ho2 (H.tail.tail)
    · have ha:C.prp2 x c = if (C.set x.inst { c with pr:=x.bal }).2 = true then (C.set x.inst { c with pr:=x.bal }).1.send x.src (prpL x { c with pr:=x.bal }) else (C.set x.inst { c with pr:=x.bal }).1:=if_neg hpb
      rw [ha]
      have hss:=coset_same C x.inst { c with pr:=x.bal }
      simp (disch:=omega) only [go_sem,undef,e0,e3,e4,e7,h0,h3,h4,h7,H.cs,dec_f k1,dec_f k3,dec_t k6,dec_f hpb,Bool.not_false]
      refine stQ0 H (Nat.le_of_ble_eq_true rfl) rfl fun M f H => ?_
      have H:Hq m M (coA cb Y0 C0).wp [cellA b4 (.cells ({ c with pr:=x.bal }:Cel).cs.toArray T_api_Cell (0,0)),cellA b3 (.cells x.cs.toArray T_api_Letter (0,0)),coA cb Y C]:=H
      simp (disch:=omega) only [go_sem,undef,H.cs]
      refine callA 2 H (core_set_s (H.at 2 rfl) ho x.inst { c with pr:=x.bal } hrec) rfl fun u M A' hR f H => ?_
      refine hR.E fun Y1 eu ho1 eA => ?_
      subst eu eA
      clear hR ha hp
      generalize C.set x.inst { c with pr:=x.bal } = r at *
      obtain ⟨C1,ok⟩:=r
      have Hn:Hq m M (coA cb Y0 C0).wp [cellA b4 (.cells ({ c with pr:=x.bal }:Cel).cs.toArray T_api_Cell (0,0)),cellA b3 (.cells x.cs.toArray T_api_Letter (0,0)),coA cb Y1 C1]:=H
      clear H
      cases ok with
      | true =>
        have H:=Hn
        simp (disch:=omega) only [go_sem,undef,H.cs,Bool.not_true]
        refine callA 2 H (send_s (H.at 2 rfl) ho1 x.src (prpL x { c with pr:=x.bal }) (Nat.le_trans (Nat.le_of_eq (congrArg List.length hss.2.2.1)) (Nat.le_trans hout (by decide)))) rfl fun u M A' hR f H => ?_
        refine hR.E fun Y2 eu ho2 eA => ?_
        subst eu eA
        simp (disch:=omega) only [go_sem,undef]
        exact cx_fin co_fw ho2 (H.tail.tail)
      | false =>
        have H:=Hn
        simp (disch:=omega) only [go_sem,undef,H.cs,Bool.not_false]
        exact cx_fin co_fw ho1 (H.tail.tail)
  · have hp:C.ask3 x c own = C:=by unfold Co.ask3; rw [if_neg k1,if_neg k3,if_neg k6]
    rw [hp]
    simp (disch:=omega) only [go_sem,undef,e0,e3,e4,e7,h0,h3,h4,h7,H.cs,dec_f k1,dec_f k3,dec_f k6]
    exact cx_fin co_fw ho (H.tail.tail)
end Go.Fw
namespace Go.Fw
open Go.Proofs
variable {m m0 M:Mem} {S:List Nat} {L:List As}
variable {cb:Nat} {Y:Ly} {C:Co}
theorem pnn_t (b:Nat):rd (.eqp true) [lp b,.pointer none] m = some (.bool true):=rfl
theorem pnn_f:rd (.eqp true) [.pointer none,.pointer none] m = some (.bool false):=rfl
def ownB (x:Lt) (c:Cel):Bool:=decide (c.st ≠ 0 ∧ c.vo = x.bal)
theorem asked_d {C0:Co} {Y0:Ly} {E:Env} {b3 b4:Nat} {x:Lt} {c:Cel} (ho:Y.ok C) (hxl:IdxOk C.xl) (hkey:x.cmd.key.size ≤ 1000) (hrec:C.recs.length ≤ 1000000) (hout:C.out.length ≤ 999000)
    (H:Hq m M (coA cb Y0 C0).wp [cellA b4 (.cells c.cs.toArray T_api_Cell (0,0)),cellA b3 (.cells x.cs.toArray T_api_Letter (0,0)),coA cb Y C])
    (e0:E.get 0 = lp cb) (e3:E.get 3 = lp b3) (e4:E.get 4 = lp b4) (h0:E.has 0 = true) (h3:E.has 3 = true) (h4:E.has 4 = true) :
    wpN Tryz.prog (.seq Q45r9 akA) (retP [] fun u M => ∃ A',CoR cb (C.ask3 x c (ownB x c)) (.tuple #[]) u A' ∧ A'.p M ∧ Fr m M (coA cb Y0 C0).wp ∧ (∀ b ∈ A'.fp,b ∈ (coA cb Y0 C0).fp ∨ m b = none) ∧ ∀ b ∈ A'.wp,b ∈ (coA cb Y0 C0).wp ∨ m b = none) E M:=by
  generalize hC:akA = T
  by_cases h1:c.st ≠ 0
  · by_cases h2:c.vo = x.bal
    · have hw:ownB x c = true:=decide_eq_true ⟨h1,h2⟩
      rw [hw]
      simp (disch:=omega) only [go_sem,undef,e0,e3,e4,h0,h3,h4,H.cs,dec_t h1,dec_t h2]
      subst hC
      exact asked_c ho hxl hkey hrec hout H rfl rfl rfl rfl rfl rfl rfl rfl
    · have hw:ownB x c = false:=decide_eq_false fun h => h2 h.2
      rw [hw]
      simp (disch:=omega) only [go_sem,undef,e0,e3,e4,h0,h3,h4,H.cs,dec_t h1,dec_f h2]
      subst hC
      exact asked_c ho hxl hkey hrec hout H rfl rfl rfl rfl rfl rfl rfl rfl
  · have hw:ownB x c = false:=decide_eq_false fun h => h1 h.1
    rw [hw]
    simp (disch:=omega) only [go_sem,undef,e0,e3,e4,h0,h3,h4,H.cs,dec_f h1]
    subst hC
    exact asked_c ho hxl hkey hrec hout H rfl rfl rfl rfl rfl rfl rfl rfl
/-- a lead at a lower ballot is left -/
def Co.yields (C:Co) (i b:Int × Int):Co:=match fdL i C.leads with
  | some j => match C.leads[j]? with
    | some l => if lt2 l.bal b then C.leave i else C
    | none => C
  | none => C
def Co.ask2 (C:Co) (x:Lt) (c:Cel):Co :=
  if c.st = 3 then C.send x.src { Lt.zero with kind:=5,inst:=x.inst,cmd:=c.cmd,att:=c.att } else
  if lt2 x.bal c.pr then C.send x.src { Lt.zero with kind:=8,inst:=x.inst,bal:=c.pr } else
  (C.yields x.inst x.bal).ask3 x c (ownB x c)
abbrev akB:NC:=.seq (.seq Q45r2 (.cond (.slot 21) (.seq Q45r3 .ret) .skip)) (.seq (.seq Q45r4 (.cond (.slot 37) (.seq Q45r5 .ret) .skip)) (.seq (.seq Q45r6 (.seq Q45r7 (.cond (.slot 61) Q45r8 .skip))) (.seq Q45r9 akA)))
set_option maxHeartbeats 16000000 in
theorem asked_b {C0:Co} {Y0:Ly} {E:Env} {b3 b4:Nat} {x:Lt} {c:Cel} (ho:Y.ok C) (hxl:IdxOk C.xl) (hkey:x.cmd.key.size ≤ 1000) (hrec:C.recs.length ≤ 1000000) (hn:C.leads.length ≤ 100000) (hout:C.out.length ≤ 999000)
    (H:Hq m M (coA cb Y0 C0).wp [cellA b4 (.cells c.cs.toArray T_api_Cell (0,0)),cellA b3 (.cells x.cs.toArray T_api_Letter (0,0)),coA cb Y C])
    (e0:E.get 0 = lp cb) (e3:E.get 3 = lp b3) (e4:E.get 4 = lp b4) (h0:E.has 0 = true) (h3:E.has 3 = true) (h4:E.has 4 = true) :
    wpN Tryz.prog akB (retP [] fun u M => ∃ A',CoR cb (C.ask2 x c) (.tuple #[]) u A' ∧ A'.p M ∧ Fr m M (coA cb Y0 C0).wp ∧ (∀ b ∈ A'.fp,b ∈ (coA cb Y0 C0).fp ∨ m b = none) ∧ ∀ b ∈ A'.wp,b ∈ (coA cb Y0 C0).wp ∨ m b = none) E M:=by
  by_cases hs:c.st = 3
  · have hp:C.ask2 x c = C.send x.src { Lt.zero with kind:=5,inst:=x.inst,cmd:=c.cmd,att:=c.att }:=if_pos hs
    rw [hp]
    simp (disch:=omega) only [go_sem,undef,e0,e3,e4,h0,h3,h4,H.cs,dec_t hs]
    refine callA 2 H (send_s (H.at 2 rfl) ho x.src { Lt.zero with kind:=5,inst:=x.inst,cmd:=c.cmd,att:=c.att } (by omega)) rfl fun u M A' hR f H => ?_
    refine hR.E fun Y2 eu ho2 eA => ?_
    subst eu eA
    simp (disch:=omega) only [go_sem,undef]
    exact cx_fin co_fw ho2 (H.tail.tail)
  by_cases hb:lt2 x.bal c.pr
  · have hp:C.ask2 x c = C.send x.src { Lt.zero with kind:=8,inst:=x.inst,bal:=c.pr }:=by unfold Co.ask2; rw [if_neg hs,if_pos hb]
    rw [hp]
    simp (disch:=omega) only [go_sem,undef,e0,e3,e4,h0,h3,h4,H.cs,dec_f hs]
    refine callQ H (inst_Below_s x.bal c.pr _) fun M f H => ?_
    simp (disch:=omega) only [go_sem,undef,e0,e3,e4,h0,h3,h4,H.cs,dec_t hb]
    refine callA 2 H (send_s (H.at 2 rfl) ho x.src { Lt.zero with kind:=8,inst:=x.inst,bal:=c.pr } (by omega)) rfl fun u M A' hR f H => ?_
    refine hR.E fun Y2 eu ho2 eA => ?_
    subst eu eA
    simp (disch:=omega) only [go_sem,undef]
    exact cx_fin co_fw ho2 (H.tail.tail)
  have hp:C.ask2 x c = (C.yields x.inst x.bal).ask3 x c (ownB x c):=by unfold Co.ask2; rw [if_neg hs,if_neg hb]
  rw [hp]
  have hyd:C.yields x.inst x.bal = match fdL x.inst C.leads with
    | some j => match C.leads[j]? with
      | some l => if lt2 l.bal x.bal then C.leave x.inst else C
      | none => C
    | none => C:=rfl
  show wpN Tryz.prog (.seq (.seq Q45r2 (.cond (.slot 21) (.seq Q45r3 .ret) .skip)) (.seq (.seq Q45r4 (.cond (.slot 37) (.seq Q45r5 .ret) .skip)) (.seq (.seq Q45r6 (.seq Q45r7 (.cond (.slot 61) Q45r8 .skip))) (.seq Q45r9 akA)))) _ E M
  generalize hC:(NC.seq Q45r9 akA) = T
  simp (disch:=omega) only [go_sem,undef,e0,e3,e4,h0,h3,h4,H.cs,dec_f hs]
  refine callQ H (inst_Below_s x.bal c.pr _) fun M f H => ?_
  simp (disch:=omega) only [go_sem,undef,e0,e3,e4,h0,h3,h4,H.cs,dec_f hb]
  refine callQ H (find_s (H.at 2 rfl) ho x.inst (by omega)) fun M f H => ?_
  cases hfd:fdL x.inst C.leads with
  | none =>
    rw [hfd] at hyd
    simp only at hyd
    rw [hyd]
    have hpt:ptO Y.lds none = .pointer none:=rfl
    simp (disch:=omega) only [go_sem,undef,e0,e3,e4,h0,h3,h4,H.cs,hpt,pnn_f]
    subst hC
    exact asked_d ho hxl hkey hrec hout H rfl rfl rfl rfl rfl rfl
  | some j =>
    rw [hfd] at hyd
    have hjl:j < C.leads.length:=by
      unfold fdL at hfd
      rw [List.findIdx?_eq_some_iff_getElem] at hfd
      exact hfd.1
    have hlen:=ho.lds
    refine Exists.elim (⟨C.leads[j],List.getElem?_eq_getElem hjl⟩:∃ l,C.leads[j]? = some l) fun l hl => ?_
    refine Exists.elim (⟨Y.lds[j]'(by omega),List.getElem?_eq_getElem (by omega)⟩:∃ v,Y.lds[j]? = some v) fun v hv => ?_
    simp only [hl] at hyd
    have hpt:ptO Y.lds (some j) = lp v.b:=by simp [ptO,hv]
    have hcl:=ld_cell (lds_at (co_lds (H.at 2 rfl)) hv hl)
    by_cases hlb:lt2 l.bal x.bal
    · rw [if_pos hlb] at hyd
      rw [hyd]
      simp (disch:=omega) only [go_sem,undef,e0,e3,e4,h0,h3,h4,H.cs,hpt,pnn_t,hcl,Ld.c]
      refine callQ H (inst_Below_s l.bal x.bal _) fun M f H => ?_
      simp (disch:=omega) only [go_sem,undef,e0,e3,e4,h0,h3,h4,H.cs,dec_t hlb]
      refine callA 2 H (core_leave_s (H.at 2 rfl) ho x.inst (by omega)) rfl fun u M A' hR f H => ?_
      refine hR.E fun Y1 eu ho1 eA => ?_
      subst eu eA
      have H:Hq m M (coA cb Y0 C0).wp [cellA b4 (.cells c.cs.toArray T_api_Cell (0,0)),cellA b3 (.cells x.cs.toArray T_api_Letter (0,0)),coA cb Y1 (C.leave x.inst)]:=H
      simp (disch:=omega) only [go_sem,undef]
      subst hC
      exact asked_d ho1 hxl hkey hrec hout H rfl rfl rfl rfl rfl rfl
    · rw [if_neg hlb] at hyd
      rw [hyd]
      simp (disch:=omega) only [go_sem,undef,e0,e3,e4,h0,h3,h4,H.cs,hpt,pnn_t,hcl,Ld.c]
      refine callQ H (inst_Below_s l.bal x.bal _) fun M f H => ?_
      simp (disch:=omega) only [go_sem,undef,e0,e3,e4,h0,h3,h4,H.cs,dec_f hlb]
      subst hC
      exact asked_d ho hxl hkey hrec hout H rfl rfl rfl rfl rfl rfl
def Co.asked (C:Co) (x:Lt):Co:=C.ask2 x ((lkC x.inst C.lg).getD Cel.zero)
theorem asked_code:Q45c = .seq Q45r0 (.seq Q45r1 akB):=rfl
set_option maxHeartbeats 8000000 in
theorem core_asked_s (h:(coA cb Y C).p m) (ho:Y.ok C) (x:Lt) (hxl:IdxOk C.xl) (hkey:x.cmd.key.size ≤ 1000) (hrec:C.recs.length ≤ 1000000) (hn:C.leads.length ≤ 100000) (hout:C.out.length ≤ 999000) :
    CM Tryz.prog n_core_Core_asked [lp cb,x.v] m (coA cb Y C) (CoR cb (C.asked x) (.tuple #[])):=by
  have H:=Hq.one h
  refine Q45go (by simp [Tryz.f33]) ?_
  rw [asked_code]
  generalize hC:akB = T
  simp (disch:=omega) only [go_sem,undef]
  refine newQ H fun b3 M f H => ?_
  simp (disch:=omega) only [go_sem,undef,H.cs,co_cell (H.at 1 rfl),Ly.c]
  refine both_intro ?_ ?_
  · simp (disch:=omega) only [go_sem,undef,H.cs,co_cell (H.at 1 rfl),Ly.c]
    refine callQ H (log_Cell_s (co_log (H.at 1 rfl)) x.inst) fun M f H => ?_
    simp (disch:=omega) only [go_sem,undef,H.cs,co_cell (H.at 1 rfl),Ly.c]
    refine newQ H fun b4 M f H => ?_
    simp (disch:=omega) only [go_sem,undef,H.cs,co_cell (H.at 2 rfl),Ly.c]
    refine stwQ0 H rfl rfl fun M f H => ?_
    simp (disch:=omega) only [go_sem,undef]
    subst hC
    exact asked_b ho hxl hkey hrec hn hout H rfl rfl rfl rfl rfl rfl
  · simp (disch:=omega) only [go_sem,undef,H.cs,co_cell (H.at 1 rfl),Ly.c]
    refine newQ H fun b4 M f H => ?_
    simp (disch:=omega) only [go_sem,undef,H.cs,co_cell (H.at 2 rfl),Ly.c]
    refine callQ H (log_Cell_s (co_log (H.at 2 rfl)) x.inst) fun M f H => ?_
    simp (disch:=omega) only [go_sem,undef,H.cs,co_cell (H.at 2 rfl),Ly.c]
    refine stwQ0 H rfl rfl fun M f H => ?_
    simp (disch:=omega) only [go_sem,undef]
    subst hC
    exact asked_b ho hxl hkey hrec hn hout H rfl rfl rfl rfl rfl rfl
end Go.Fw
namespace Go.Fw
open Go.Proofs
variable {m m0 M:Mem} {S:List Nat} {L:List As}
variable {cb:Nat} {Y:Ly} {C:Co}
/-- an instance is to be accepted -/
def Co.accept (C:Co) (l:Ld) (x:Cmd) (a:Att):Co :=
  if rightA a then
    if (C.set l.id ⟨2,l.bal,l.bal,x,a,false⟩).2 = true then (C.set l.id ⟨2,l.bal,l.bal,x,a,false⟩).1.beginE (newLd l.id 1 l.bal false x a)
    else (C.set l.id ⟨2,l.bal,l.bal,x,a,false⟩).1.leave l.id
  else C.leave l.id
set_option maxHeartbeats 16000000 in
theorem core_accept_s (h:(coA cb Y C).p m) (ho:Y.ok C) {j:Nat} {v:LdV} {l:Ld} (hv:Y.lds[j]? = some v) (hl:C.leads[j]? = some l) (x:Cmd) (a:Att) (hrec:C.recs.length ≤ 1000000) (hn:C.leads.length ≤ 100000) (hn7:C.n ≤ 7) (hout:C.out.length ≤ 999000) :
    CM Tryz.prog n_core_Core_accept [lp cb,lp v.b,x.v,a.v] m (coA cb Y C) (CoR cb (C.accept l x a) (.tuple #[])):=by
  have H:=Hq.one h
  have hss:=coset_same C l.id ⟨2,l.bal,l.bal,x,a,false⟩
  by_cases hr:rightA a
  · have hp:C.accept l x a = if (C.set l.id ⟨2,l.bal,l.bal,x,a,false⟩).2 = true then (C.set l.id ⟨2,l.bal,l.bal,x,a,false⟩).1.beginE (newLd l.id 1 l.bal false x a) else (C.set l.id ⟨2,l.bal,l.bal,x,a,false⟩).1.leave l.id:=if_pos hr
    rw [hp]
    refine Q90go (by simp [Tryz.f33]) ?_
    simp (disch:=omega) only [go_sem,undef]
    refine newQ H fun b6 M f H => ?_
    simp (disch:=omega) only [go_sem,undef]
    refine newQ H fun b7 M f H => ?_
    simp (disch:=omega) only [go_sem,undef,H.cs]
    refine callQ H (deps_Right_s a _) fun M f H => ?_
    have hcl:=ld_cell (lds_at (co_lds (H.at 2 rfl)) hv hl)
    simp (disch:=omega) only [go_sem,undef,H.cs,dec_t hr,Bool.not_true,hcl,Ld.c]
    refine callA 2 H (core_set_k (H.at 2 rfl) ho l.id ⟨2,l.bal,l.bal,x,a,false⟩ hrec) rfl fun u M A' hR f H => ?_
    refine hR.E fun Y1 eu ho1 eA hy1 => ?_
    subst eu eA
    clear hR hp
    generalize C.set l.id ⟨2,l.bal,l.bal,x,a,false⟩ = r at *
    obtain ⟨C1,ok⟩:=r
    have Hn:Hq m M (coA cb Y C).wp [cellA b7 (.cells a.cs.toArray T_api_Attr (0,0)),cellA b6 (.cells x.cs.toArray T_api_Command (0,0)),coA cb Y1 C1]:=H
    clear H
    have hl1:C1.leads[j]? = some l:=by rw [show C1.leads = C.leads from hss.1]; exact hl
    have hv1:Y1.lds[j]? = some v:=by rw [hy1]; exact hv
    cases ok with
    | true =>
      have H:=Hn
      have hcl:=ld_cell (lds_at (co_lds (H.at 2 rfl)) hv1 hl1)
      simp (disch:=omega) only [go_sem,undef,H.cs,Bool.not_true,hcl,Ld.c]
      refine newQ H fun b9 M f H => ?_
      have H:=new_ld H
      have H:Hq m M (coA cb Y C).wp (ldA ⟨b9,.slice none 0 0,.slice none 0 0⟩ (newLd l.id 1 l.bal false x a) :: coA cb Y1 C1 :: []):=H.sel 4 [0,3] rfl (by decide) (by decide)
      have H:=Hq.join H
      simp (disch:=omega) only [go_sem,undef]
      refine callA0 H (core_begin_s (H.at 0 rfl) ho1 (Nat.le_trans (Nat.le_of_eq (congrArg List.length hss.1)) hn) (Nat.le_trans (Nat.le_of_eq hss.2.1) hn7) (Nat.le_trans (Nat.le_of_eq (congrArg List.length hss.2.2.1)) hout)) fun u M A' hR f H => ?_
      refine hR.E fun Y2 eu ho2 eA => ?_
      subst eu eA
      simp (disch:=omega) only [go_sem,undef]
      exact cx_fin co_fw ho2 H
    | false =>
      have H:=Hn
      have hcl:=ld_cell (lds_at (co_lds (H.at 2 rfl)) hv1 hl1)
      simp (disch:=omega) only [go_sem,undef,H.cs,Bool.not_false,hcl,Ld.c]
      refine callA 2 H (core_leave_s (H.at 2 rfl) ho1 l.id (Nat.le_trans (Nat.le_of_eq (congrArg List.length hss.1)) (Nat.le_trans hn (by decide)))) rfl fun u M A' hR f H => ?_
      refine hR.E fun Y2 eu ho2 eA => ?_
      subst eu eA
      simp (disch:=omega) only [go_sem,undef]
      exact cx_fin co_fw ho2 (H.tail.tail)
  · have hp:C.accept l x a = C.leave l.id:=if_neg hr
    rw [hp]
    refine Q90go (by simp [Tryz.f33]) ?_
    simp (disch:=omega) only [go_sem,undef]
    refine newQ H fun b6 M f H => ?_
    simp (disch:=omega) only [go_sem,undef]
    refine newQ H fun b7 M f H => ?_
    simp (disch:=omega) only [go_sem,undef,H.cs]
    refine callQ H (deps_Right_s a _) fun M f H => ?_
    have hcl:=ld_cell (lds_at (co_lds (H.at 2 rfl)) hv hl)
    simp (disch:=omega) only [go_sem,undef,H.cs,dec_f hr,Bool.not_false,hcl,Ld.c]
    refine callA 2 H (core_leave_s (H.at 2 rfl) ho l.id (by omega)) rfl fun u M A' hR f H => ?_
    refine hR.E fun Y2 eu ho2 eA => ?_
    subst eu eA
    simp (disch:=omega) only [go_sem,undef]
    exact cx_fin co_fw ho2 (H.tail.tail)
end Go.Fw
namespace Go.Fw
open Go.Proofs
variable {m m0 M:Mem} {S:List Nat} {L:List As}
variable {cb:Nat} {Y:Ly} {C:Co}
/-- what the replies came to is done -/
def Co.weigh2 (C:Co) (l:Ld) (d:Int) (a:Att):Co × Bool:=if d = 1 then (C.commit l.id l.cmd a,true) else if d = 2 then (C.accept l l.cmd a,true) else (C,false)
def Co.weigh (C:Co) (l:Ld) (late:Bool):Co × Bool:=C.weigh2 l (preQ C.n l.first l.att l.reps late).1 (preQ C.n l.first l.att l.reps late).2
abbrev wgA:NC:=.seq (.seq Q58r2 (.block 0 (.seq Q58r3 (.cond (.slot 31) Q58r4 (.seq Q58r5 (.cond (.slot 44) Q58r6 (.seq Q58r7 .ret))))))) (.seq Q58r8 .ret)
set_option maxHeartbeats 16000000 in
theorem weigh_b {C0:Co} {Y0:Ly} {E:Env} {b8 j:Nat} {v:LdV} {l:Ld} {d:Int} {a:Att} (ho:Y.ok C) (hv:Y.lds[j]? = some v) (hl:C.leads[j]? = some l) (hrec:C.recs.length ≤ 1000000) (hn:C.leads.length ≤ 100000) (hn7:C.n ≤ 7) (hout:C.out.length ≤ 999000)
    (H:Hq m M (coA cb Y0 C0).wp [cellA b8 (.cells a.cs.toArray T_api_Attr (0,0)),coA cb Y C])
    (e0:E.get 0 = lp cb) (e1:E.get 1 = lp v.b) (e7:E.get 7 = .int .i64 d) (e8:E.get 8 = lp b8) (h0:E.has 0 = true) (h1:E.has 1 = true) (h7:E.has 7 = true) (h8:E.has 8 = true) :
    wpN Tryz.prog wgA (retP [.slot 6] fun u M => ∃ A',CoR cb (C.weigh2 l d a).1 (.bool (C.weigh2 l d a).2) u A' ∧ A'.p M ∧ Fr m M (coA cb Y0 C0).wp ∧ (∀ b ∈ A'.fp,b ∈ (coA cb Y0 C0).fp ∨ m b = none) ∧ ∀ b ∈ A'.wp,b ∈ (coA cb Y0 C0).wp ∨ m b = none) E M:=by
  have hcl:=ld_cell (lds_at (co_lds (H.at 1 rfl)) hv hl)
  by_cases d1:d = 1
  · have hp:C.weigh2 l d a = (C.commit l.id l.cmd a,true):=if_pos d1
    rw [hp]
    simp (disch:=omega) only [go_sem,undef,e0,e1,e7,e8,h0,h1,h7,h8,H.cs,dec_t d1,hcl,Ld.c]
    refine callA 1 H (core_commit_s (H.at 1 rfl) ho l.id l.cmd a hrec hn hn7 hout) rfl fun u M A' hR f H => ?_
    refine hR.E fun Y2 eu ho2 eA => ?_
    subst eu eA
    simp (disch:=omega) only [go_sem,undef]
    exact cx_fin co_fw ho2 H.tail
  by_cases d2:d = 2
  · have hp:C.weigh2 l d a = (C.accept l l.cmd a,true):=by unfold Co.weigh2; rw [if_neg d1,if_pos d2]
    rw [hp]
    simp (disch:=omega) only [go_sem,undef,e0,e1,e7,e8,h0,h1,h7,h8,H.cs,dec_f d1,dec_t d2,hcl,Ld.c]
    refine callA 1 H (core_accept_s (H.at 1 rfl) ho hv hl l.cmd a hrec hn hn7 hout) rfl fun u M A' hR f H => ?_
    refine hR.E fun Y2 eu ho2 eA => ?_
    subst eu eA
    simp (disch:=omega) only [go_sem,undef]
    exact cx_fin co_fw ho2 H.tail
  · have hp:C.weigh2 l d a = (C,false):=by unfold Co.weigh2; rw [if_neg d1,if_neg d2]
    rw [hp]
    simp (disch:=omega) only [go_sem,undef,e0,e1,e7,e8,h0,h1,h7,h8,H.cs,dec_f d1,dec_f d2]
    exact cx_fin co_fw ho H.tail
theorem weigh_code:Q58c = .seq Q58r0 (.seq Q58r1 wgA):=rfl
theorem ld_reps {v:LdV} {x:Ld} (h:(ldA v x).p m):RdS 8 Att.cs m v.rp x.reps:=Own.rds (by decide) Att.len (starL_mem h (ownA T_api_Attr 8 v.rp x.reps.length (x.reps.flatMap Att.cs)) (by simp))
set_option maxHeartbeats 16000000 in
theorem core_weigh_s (h:(coA cb Y C).p m) (ho:Y.ok C) {j:Nat} {v:LdV} {l:Ld} (hv:Y.lds[j]? = some v) (hl:C.leads[j]? = some l) (late:Bool) (hrec:C.recs.length ≤ 1000000) (hn:C.leads.length ≤ 100000) (hn7:C.n ≤ 7) (hout:C.out.length ≤ 999000) (hreps:l.reps.length ≤ 100) :
    CM Tryz.prog n_core_Core_weigh [lp cb,lp v.b,.bool late] m (coA cb Y C) (CoR cb (C.weigh l late).1 (.bool (C.weigh l late).2)):=by
  have H:=Hq.one h
  have hw:C.weigh l late = C.weigh2 l (preQ C.n l.first l.att l.reps late).1 (preQ C.n l.first l.att l.reps late).2:=rfl
  rw [hw]
  obtain ⟨ra,rc,hrp⟩:=(ld_reps (lds_at (co_lds h) hv hl)).form
  have hpre:=fun M (hA:(coA cb Y C).p M) => pre_s (n:=C.n) (first:=l.first) (late:=late) (own:=l.att) (hrp ▸ ld_reps (lds_at (co_lds hA) hv hl)) (by omega) hreps
  refine Q58go (by simp [Tryz.f33]) ?_
  rw [weigh_code]
  generalize hC:wgA = T
  generalize preQ C.n l.first l.att l.reps late = q at *
  obtain ⟨d,a⟩:=q
  have hcl:=fun M (hA:(coA cb Y C).p M) => ld_cell (lds_at (co_lds hA) hv hl)
  simp (disch:=omega) only [go_sem,undef,co_cell (H.at 0 rfl),Ly.c,hcl _ (H.at 0 rfl),Ld.c,hrp]
  refine both_intro ?_ ?_
  · simp (disch:=omega) only [go_sem,undef,co_cell (H.at 0 rfl),Ly.c,hcl _ (H.at 0 rfl),Ld.c,hrp]
    refine callQ H (hpre _ (H.at 0 rfl)) fun M f H => ?_
    simp (disch:=omega) only [go_sem,undef,co_cell (H.at 0 rfl),Ly.c,hcl _ (H.at 0 rfl),Ld.c,hrp]
    refine newQ H fun b8 M f H => ?_
    simp (disch:=omega) only [go_sem,undef,co_cell (H.at 1 rfl),Ly.c,hcl _ (H.at 1 rfl),Ld.c,hrp]
    refine stwQ0 H rfl rfl fun M f H => ?_
    simp (disch:=omega) only [go_sem,undef]
    subst hC
    exact weigh_b ho hv hl hrec hn hn7 hout H rfl rfl rfl rfl rfl rfl rfl rfl
  · simp (disch:=omega) only [go_sem,undef,co_cell (H.at 0 rfl),Ly.c,hcl _ (H.at 0 rfl),Ld.c,hrp]
    refine newQ H fun b8 M f H => ?_
    simp (disch:=omega) only [go_sem,undef,co_cell (H.at 1 rfl),Ly.c,hcl _ (H.at 1 rfl),Ld.c,hrp]
    refine callQ H (hpre _ (H.at 1 rfl)) fun M f H => ?_
    simp (disch:=omega) only [go_sem,undef,co_cell (H.at 1 rfl),Ly.c,hcl _ (H.at 1 rfl),Ld.c,hrp]
    refine stwQ0 H rfl rfl fun M f H => ?_
    simp (disch:=omega) only [go_sem,undef]
    subst hC
    exact weigh_b ho hv hl hrec hn hn7 hout H rfl rfl rfl rfl rfl rfl rfl rfl
end Go.Fw
namespace Go.Fw
open Go.Proofs
variable {m m0 M:Mem} {S:List Nat} {L:List As}
variable {cb:Nat} {Y:Ly} {C:Co}
theorem CoC.lay_a (c:CoC) (n me:Int) (a b:Nat):lay c.cs [(0,1),(1,1),(2,1),(3,1)] [.int .i64 n,.int .i64 me,lp a,lp b] = some ({ c with n:=n,me:=me,lg:=lp a,ix:=lp b }:CoC).cs:=rfl
attribute [go_sem] CoC.lay_a
/-- a core that kept nothing -/
def Co.new (n me:Nat) (cut:Dp):Co:=⟨n,me,trimD Dp.zero cut,[],trimD Dp.zero cut,[],[],[],[],[],[]⟩
set_option maxHeartbeats 8000000 in
theorem core_New0_s (n me:Nat) (hn:n = 3 ∨ n = 5 ∨ n = 7) (hme:me < n) (cut:Dp) (hcut:rightA ⟨0,cut⟩) (m:Mem) :
    CN Tryz.prog n_core_New [.int .i64 (n:Nat),.int .i64 (me:Nat),cut.v,.slice none 0 0] m fun u A => ∃ cb Y,Y.ok (Co.new n me cut) ∧ u = .tuple #[lp cb,.int .i64 0] ∧ A = coA cb Y (Co.new n me cut):=by
  refine Q24go (by simp [Tryz.f33]) ?_
  have H:=Hq.refl m []
  simp (disch:=omega) only [go_sem,undef]
  refine newQ H fun b6 M f H => ?_
  simp (disch:=omega) only [go_sem,undef]
  refine callQ H (fits_s _ _) fun M f H => ?_
  simp (disch:=omega) only [go_sem,undef,H.cs,dec_t (show ((n:Nat):Int) = 3 ∨ ((n:Nat):Int) = 5 ∨ ((n:Nat):Int) = 7 by omega),Bool.not_true,dec_f (show ¬ ((me:Nat):Int) < 0 by omega),dec_f (show ¬ ((me:Nat):Int) ≥ (n:Nat) by omega)]
  refine callQ H (deps_Right_s ⟨0,cut⟩ _) fun M f H => ?_
  simp (disch:=omega) only [go_sem,undef,H.cs,dec_t hcut,Bool.not_true]
  refine callN H (log_New_q cut _) fun u M A' hR f H => ?_
  refine Exists.elim hR fun lb hh => Exists.elim hh fun lr hh => ?_
  have eu:=hh.1
  have eA:=hh.2
  subst eu eA
  clear hh hR
  simp (disch:=omega) only [go_sem,undef]
  refine callN H (idx_New_q _) fun u M A' hR f H => ?_
  refine Exists.elim hR fun xb hh => Exists.elim hh fun xr hh => ?_
  have eu:=hh.1
  have eA:=hh.2
  subst eu eA
  clear hh hR
  simp (disch:=omega) only [go_sem,undef]
  refine newQ H fun cb M f H => ?_
  simp (disch:=omega) only [go_sem,undef,H.cs]
  refine callS 1 (idxA xb xr Dp.zero []) (idxA xb xr (trimD Dp.zero cut) []) H (MC.mono (idx_Prune_q (H.at 1 rfl) (by simp [keysN]) cut) fun u M h => by simpa using h) rfl rfl rfl fun M f H => ?_
  simp (disch:=omega) only [go_sem,undef]
  refine loopQ_intro (fun k E m' => E = [(10,lp cb),(47,.slice none 0 0),(48,.int .i64 0),(49,.int .i64 0)] ∧ m' = M) 0 rfl ⟨rfl,rfl⟩ ?_
  rintro k E M1 ⟨rfl,rfl⟩
  simp (disch:=omega) only [go_sem,undef]
  have H:Hq m M1 [] [cellA cb (.cells (CoC.mk n me (lp lb) (lp xb) (.slice none 0 0) (.slice none 0 0) (.slice none 0 0) (.slice none 0 0)).cs.toArray T_core_Core (0,0)),idxA xb xr (trimD Dp.zero cut) [],logA lb lr (trimD Dp.zero cut) [],cellA b6 (.cells (dv cut).toArray T_api_Deps (0,0))]:=H
  have H:=((((H.nilRow T_P_core_lead 1).nilRow T_P_core_wish 1).nilBr T_S_uint8).nilRow T_api_Letter 51).nilL.nilL
  have H:Hq m M1 [] (coL cb ⟨lb,lr,xb,xr,.slice none 0 0,.slice none 0 0,.slice none 0 0,.slice none 0 0,[],[],[]⟩ (Co.new n me cut) ++ []):=H.sel 10 [6,8,7,5,4,3,2,0,1] rfl (by decide) (by decide)
  have H:=Hq.coJ H
  refine post_intro ⟨_,⟨cb,⟨lb,lr,xb,xr,.slice none 0 0,.slice none 0 0,.slice none 0 0,.slice none 0 0,[],[],[]⟩,⟨rfl,rfl,rfl⟩,rfl,rfl⟩,H.hs.1,H.fr,fun b hb => ?_⟩
  rw [co_fw] at hb
  exact (H.nw _ (List.mem_cons_self ..) b hb).resolve_right (by simp)
end Go.Fw
