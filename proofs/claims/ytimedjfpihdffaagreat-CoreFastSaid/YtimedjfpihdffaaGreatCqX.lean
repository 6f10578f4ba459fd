import Derived.Test.YtimedjfpihdffaaGreatCpZ
set_option linter.unusedVariables false
set_option linter.unusedSimpArgs false
namespace Go.Fw
open Go.Proofs
variable {m m0 M:Mem} {S:List Nat} {L:List As}
variable {cb:Nat} {Y:Ly} {C:Co}
theorem wss_open {vs:List Nat} {xs:List Wsh} {j:Nat} {v:Nat} {x:Wsh} (hv:vs[j]? = some v) (hx:xs[j]? = some x) (H:Hq m0 m S (wssA vs xs :: L)):Hq m0 m S (wsA v x :: wssA (vs.eraseIdx j) (xs.eraseIdx j) :: L):=by
  have H:=Hq.splitL (l:=List.zipWith wsA vs xs) H
  have H:=H.perm ((zip_perm wsA j vs xs v x hv hx).symm.append_right L)
  exact (Hq.joinL (l:=List.zipWith wsA (vs.eraseIdx j) (xs.eraseIdx j)) (L:=wsA v x :: L) (H.perm (List.perm_middle))).perm (List.Perm.swap ..)
theorem wss_close {vs:List Nat} {xs:List Wsh} {j:Nat} {v:Nat} {x:Wsh} (hv:vs[j]? = some v) (hx:j < xs.length) (H:Hq m0 m S (wsA v x :: wssA (vs.eraseIdx j) (xs.eraseIdx j) :: L)):Hq m0 m S (wssA vs (xs.set j x) :: L):=by
  have H:=Hq.splitL (l:=List.zipWith wsA (vs.eraseIdx j) (xs.eraseIdx j)) (H.perm (List.Perm.swap ..))
  have hp:=zip_perm wsA j vs (xs.set j x) v x hv (by simp [hx])
  rw [List.eraseIdx_set_eq] at hp
  exact Hq.joinL (l:=List.zipWith wsA vs (xs.set j x)) (H.perm ((hp.append_right L).trans List.perm_middle.symm))
/-- a core, opened at one wish: its cell, and the rest -/
def coW (cb:Nat) (Y:Ly) (C:Co) (j:Nat):List As:=[wssA (Y.wss.eraseIdx j) (C.wishes.eraseIdx j),cellA cb (.cells (Y.c C).cs.toArray T_core_Core (0,0)),logA Y.lb Y.lr C.cut C.lg,idxA Y.xb Y.xr C.xcut C.xl,ownA T_P_core_lead 1 Y.lv Y.lds.length (Y.lds.flatMap fun v => ptV v.b),ownA T_P_core_wish 1 Y.wv Y.wss.length (Y.wss.flatMap ptV),
  brA T_S_uint8 Y.rv Y.rs C.recs,ownA T_api_Letter 51 Y.ov C.out.length (C.out.flatMap Lt.cs),ldsA Y.lds C.leads]
theorem co_wish {j:Nat} {v:Nat} {x:Wsh} (hv:Y.wss[j]? = some v) (hl:C.wishes[j]? = some x) (H:Hq m0 m S (coA cb Y C :: L)):Hq m0 m S (wsA v x :: starL (coW cb Y C j) :: L):=by
  have H:=Hq.coS H
  have H:Hq m0 m S (wssA Y.wss C.wishes :: ([cellA cb (.cells (Y.c C).cs.toArray T_core_Core (0,0)),logA Y.lb Y.lr C.cut C.lg,idxA Y.xb Y.xr C.xcut C.xl,ownA T_P_core_lead 1 Y.lv Y.lds.length (Y.lds.flatMap fun v => ptV v.b),ownA T_P_core_wish 1 Y.wv Y.wss.length (Y.wss.flatMap ptV),
    brA T_S_uint8 Y.rv Y.rs C.recs,ownA T_api_Letter 51 Y.ov C.out.length (C.out.flatMap Lt.cs),ldsA Y.lds C.leads] ++ L)):=by
    refine H.perm ?_
    show List.Perm _ (_ :: _ :: _ :: _ :: _ :: _ :: _ :: ldsA Y.lds C.leads :: wssA Y.wss C.wishes :: L)
    exact (List.perm_middle (l₁:=[cellA cb (.cells (Y.c C).cs.toArray T_core_Core (0,0)),logA Y.lb Y.lr C.cut C.lg,idxA Y.xb Y.xr C.xcut C.xl,ownA T_P_core_lead 1 Y.lv Y.lds.length (Y.lds.flatMap fun v => ptV v.b),ownA T_P_core_wish 1 Y.wv Y.wss.length (Y.wss.flatMap ptV),brA T_S_uint8 Y.rv Y.rs C.recs,ownA T_api_Letter 51 Y.ov C.out.length (C.out.flatMap Lt.cs),ldsA Y.lds C.leads]) (l₂:=L)).symm
  have H:=wss_open hv hl H
  have H:Hq m0 m S (coW cb Y C j ++ (wsA v x :: L)):=H.perm (List.perm_middle (l₁:=coW cb Y C j) (l₂:=L))
  exact (Hq.joinL H).perm (List.Perm.swap ..)
def Co.putW (C:Co) (j:Nat) (x:Wsh):Co:={ C with wishes:=C.wishes.set j x }
theorem co_wback {j:Nat} {v:Nat} {x x':Wsh} (hv:Y.wss[j]? = some v) (hl:C.wishes[j]? = some x) (H:Hq m0 m S (wsA v x' :: starL (coW cb Y C j) :: L)):Hq m0 m S (coA cb Y (C.putW j x') :: L):=by
  have H:=Hq.splitL (H.perm (List.Perm.swap ..))
  have H:Hq m0 m S (wsA v x' :: (coW cb Y C j ++ L)):=H.perm (List.perm_middle (l₁:=coW cb Y C j) (l₂:=L)).symm
  have H:=wss_close (vs:=Y.wss) (xs:=C.wishes) hv (List.getElem?_eq_some_iff.1 hl).1 H
  refine Hq.coJ (H.perm ?_)
  show List.Perm (cellA cb _ :: logA _ _ _ _ :: idxA _ _ _ _ :: ownA _ _ _ _ _ :: ownA _ _ _ _ _ :: brA _ _ _ _ :: ownA _ _ _ _ _ :: ldsA _ _ :: wssA _ _ :: L) _
  exact List.perm_middle (l₁:=[cellA cb (.cells (Y.c C).cs.toArray T_core_Core (0,0)),logA Y.lb Y.lr C.cut C.lg,idxA Y.xb Y.xr C.xcut C.xl,ownA T_P_core_lead 1 Y.lv Y.lds.length (Y.lds.flatMap fun v => ptV v.b),ownA T_P_core_wish 1 Y.wv Y.wss.length (Y.wss.flatMap ptV),brA T_S_uint8 Y.rv Y.rs C.recs,ownA T_api_Letter 51 Y.ov C.out.length (C.out.flatMap Lt.cs),ldsA Y.lds C.leads]) (l₂:=L)
theorem putW_ok (ho:Y.ok C) (j:Nat) (x:Wsh):Y.ok (C.putW j x):=⟨ho.lds,by simp [Co.putW,ho.wss],ho.wb⟩
/-- a refusal's ballot is kept in mind -/
def Wsh.hear (x:Wsh) (b:Int × Int):Wsh:={ x with ticks:=0,told:=if lt2 x.told b then b else x.told }
def Co.ref2 (C:Co) (i b:Int × Int):Option Nat → Co
  | none => C
  | some j => match C.wishes[j]? with
    | none => C
    | some x => C.putW j (x.hear b)
abbrev rfA:NC:=.seq Q47r5 (.seq Q47r6 (.cond (.slot 35) (.seq Q47r7 (.seq Q47r8 (.cond (.slot 45) Q47r9 .skip))) .skip))
set_option maxHeartbeats 16000000 in
theorem refused_b {C0:Co} {Y0:Ly} {b3 bw:Nat} {x:Lt} {D:Nat → Co} (hD:D bw = C.ref2 x.inst x.bal (fdW x.inst C.wishes)) (ho:Y.ok C) (hn:C.wishes.length ≤ 100000)
    (H:Hq m M (coA cb Y0 C0).wp [cellA b3 (.cells x.cs.toArray T_api_Letter (0,0)),coA cb Y C]) :
    wpN Tryz.prog rfA (retP [] fun u M => ∃ A',(∃ b,CoR cb (D b) (.tuple #[]) u A') ∧ A'.p M ∧ Fr m M (coA cb Y0 C0).wp ∧ (∀ b ∈ A'.fp,b ∈ (coA cb Y0 C0).fp ∨ m b = none) ∧ ∀ b ∈ A'.wp,b ∈ (coA cb Y0 C0).wp ∨ m b = none) [(0,lp cb),(3,lp b3)] M:=by
  have hlen:=ho.wss
  cases h2:fdW x.inst C.wishes with
  | none =>
    rw [h2] at hD
    have hD:D bw = C:=hD
    have hpt:ptW Y.wss none = .pointer none:=rfl
    simp (disch:=omega) only [go_sem,undef,H.cs]
    refine callQ H (wished_s (H.at 1 rfl) ho x.inst (by omega)) fun M f H => ?_
    rw [h2]
    simp (disch:=omega) only [go_sem,undef,H.cs,hpt,pnn_f]
    exact cm_ex bw co_fw (by rw [hD]; exact ho) (by rw [hD]; exact H.tail)
  | some j =>
    have hjl:=fdW_le h2
    refine Exists.elim (⟨Y.wss[j]'(by omega),List.getElem?_eq_getElem (by omega)⟩:∃ v,Y.wss[j]? = some v) fun v hv => ?_
    refine Exists.elim (⟨C.wishes[j],List.getElem?_eq_getElem hjl⟩:∃ w,C.wishes[j]? = some w) fun w hw => ?_
    have hpt:ptW Y.wss (some j) = lp v:=by simp [ptW,hv]
    have hr:C.ref2 x.inst x.bal (some j) = C.putW j (w.hear x.bal):=by simp only [Co.ref2,hw]
    rw [h2,hr] at hD
    clear hr
    simp (disch:=omega) only [go_sem,undef,H.cs]
    refine callQ H (wished_s (H.at 1 rfl) ho x.inst (by omega)) fun M f H => ?_
    rw [h2]
    have H:=co_wish hv hw (H.perm (List.Perm.swap ..))
    have H:Hq m M (coA cb Y0 C0).wp [cellA v (.cells w.cs.toArray T_core_wish (0,0)),starL (coW cb Y C j),cellA b3 (.cells x.cs.toArray T_api_Letter (0,0))]:=H
    simp (disch:=omega) only [go_sem,undef,H.cs,hpt,pnn_t]
    refine wrQ0 H fun M f H => ?_
    simp (disch:=omega) only [go_sem,undef,H.cs]
    refine callQ H (inst_Below_s w.told x.bal _) fun M f H => ?_
    by_cases hb:lt2 w.told x.bal
    · have e:w.hear x.bal = { w with ticks:=0,told:=x.bal }:=by unfold Wsh.hear; rw [if_pos hb]
      rw [e] at hD
      simp (disch:=omega) only [go_sem,undef,H.cs,dec_t hb]
      refine stQ0 H (Nat.le_of_ble_eq_true rfl) rfl fun M f H => ?_
      have H:Hq m M (coA cb Y0 C0).wp [wsA v { w with ticks:=0,told:=x.bal },starL (coW cb Y C j),cellA b3 (.cells x.cs.toArray T_api_Letter (0,0))]:=H
      have H:=co_wback hv hw H
      simp (disch:=omega) only [go_sem,undef]
      exact cm_ex bw co_fw (by rw [hD]; exact putW_ok ho ..) (by rw [hD]; exact H.drop 1)
    · have e:w.hear x.bal = { w with ticks:=0 }:=by unfold Wsh.hear; rw [if_neg hb]
      rw [e] at hD
      simp (disch:=omega) only [go_sem,undef,H.cs,dec_f hb]
      have H:Hq m M (coA cb Y0 C0).wp [wsA v { w with ticks:=0 },starL (coW cb Y C j),cellA b3 (.cells x.cs.toArray T_api_Letter (0,0))]:=H
      have H:=co_wback hv hw H
      exact cm_ex bw co_fw (by rw [hD]; exact putW_ok ho ..) (by rw [hD]; exact H.drop 1)
/-- a refusal is taken -/
def Co.refd (C:Co) (b:Nat) (i bal:Int × Int):Co:=((C.leave i).want b i).ref2 i bal (fdW i ((C.leave i).want b i).wishes)
def Co.ref1 (C:Co) (b:Nat) (x:Lt):Option Nat → Co
  | none => C
  | some j => match C.leads[j]? with
    | none => C
    | some l => if lt2 l.bal x.bal then C.refd b x.inst x.bal else C
def Co.refused (C:Co) (b:Nat) (x:Lt):Co:=C.ref1 b x (fdL x.inst C.leads)
theorem refused_code:Q47c = .seq Q47r0 (.seq Q47r1 (.seq (.seq Q47r2 (.cond (.slot 21) .ret .skip)) (.seq Q47r3 (.seq Q47r4 rfA)))):=rfl
theorem want_len (C:Co) (b:Nat) (i:Int × Int):(C.want b i).wishes.length ≤ C.wishes.length + 1:=by
  unfold Co.want
  split
  · show (insF C.wishes _ _).length ≤ _
    rw [insF_len _ _ _ (posW_le ..)]; omega
  · omega
set_option maxHeartbeats 16000000 in
theorem core_refused_s (h:(coA cb Y C).p m) (ho:Y.ok C) (x:Lt) (hn:C.leads.length ≤ 100000) (hnw:C.wishes.length ≤ 10000) :
    CM Tryz.prog n_core_Core_refused [lp cb,x.v] m (coA cb Y C) (fun u A => ∃ b,CoR cb (C.refused b x) (.tuple #[]) u A):=by
  have H:=Hq.one h
  refine Q47go (by simp [Tryz.f33]) ?_
  rw [refused_code]
  generalize hC:rfA = T
  have hww:∀ b,C.refused b x = C.ref1 b x (fdL x.inst C.leads):=fun b => rfl
  simp only [hww]
  clear hww
  cases hfd:fdL x.inst C.leads with
  | none =>
    have hpt:ptO Y.lds none = .pointer none:=rfl
    simp (disch:=omega) only [go_sem,undef]
    refine newQ H fun b3 M f H => ?_
    simp (disch:=omega) only [go_sem,undef,H.cs]
    refine callQ H (find_s (H.at 1 rfl) ho x.inst (by omega)) fun M f H => ?_
    rw [hfd]
    simp (disch:=omega) only [go_sem,undef,H.cs,hpt,Option.isNone_none]
    exact cm_ex (C':=fun _ => C) 0 co_fw ho H.tail
  | some j =>
    have hjl:j < C.leads.length:=by
      unfold fdL at hfd
      rw [List.findIdx?_eq_some_iff_getElem] at hfd
      exact hfd.1
    have hlen:=ho.lds
    refine Exists.elim (⟨C.leads[j],List.getElem?_eq_getElem hjl⟩:∃ l,C.leads[j]? = some l) fun l hl => ?_
    refine Exists.elim (⟨Y.lds[j]'(by omega),List.getElem?_eq_getElem (by omega)⟩:∃ v,Y.lds[j]? = some v) fun v hv => ?_
    have hpt:ptO Y.lds (some j) = lp v.b:=by simp [ptO,hv]
    have hww:∀ b,C.ref1 b x (some j) = if lt2 l.bal x.bal then C.refd b x.inst x.bal else C:=fun b => by simp only [Co.ref1,hl]
    simp only [hww]
    clear hww
    by_cases hlb:lt2 l.bal x.bal
    · simp only [if_pos hlb]
      simp (disch:=omega) only [go_sem,undef]
      refine newQ H fun b3 M f H => ?_
      simp (disch:=omega) only [go_sem,undef,H.cs]
      refine callQ H (find_s (H.at 1 rfl) ho x.inst (by omega)) fun M f H => ?_
      rw [hfd]
      have hcl:=ld_cell (lds_at (co_lds (H.at 1 rfl)) hv hl)
      simp (disch:=omega) only [go_sem,undef,H.cs,hpt,Option.isNone_some,hcl,Ld.c]
      refine callQ H (inst_Below_s l.bal x.bal _) fun M f H => ?_
      simp (disch:=omega) only [go_sem,undef,H.cs,dec_t hlb,Bool.not_true]
      refine callA 1 H (core_leave_s (H.at 1 rfl) ho x.inst (by omega)) rfl fun u M A' hR f H => ?_
      refine hR.E fun Y1 eu ho1 eA => ?_
      subst eu eA
      have H:Hq m M (coA cb Y C).wp [cellA b3 (.cells x.cs.toArray T_api_Letter (0,0)),coA cb Y1 (C.leave x.inst)]:=H
      simp (disch:=omega) only [go_sem,undef,H.cs]
      refine callA 1 H (core_Want_s (H.at 1 rfl) ho1 x.inst (Nat.le_trans hnw (by decide))) rfl fun u M A' hR f H => ?_
      refine Exists.elim hR fun bw hR => ?_
      refine hR.E fun Y2 eu ho2 eA => ?_
      subst eu eA
      have H:Hq m M (coA cb Y C).wp [cellA b3 (.cells x.cs.toArray T_api_Letter (0,0)),coA cb Y2 ((C.leave x.inst).want bw x.inst)]:=H
      simp (disch:=omega) only [go_sem,undef]
      subst hC
      have hwl:=want_len (C.leave x.inst) bw x.inst
      have hnl:(C.leave x.inst).wishes.length = C.wishes.length:=rfl
      exact refused_b (D:=fun b => C.refd b x.inst x.bal) (bw:=bw) rfl ho2 (by omega) H
    · simp only [if_neg hlb]
      simp (disch:=omega) only [go_sem,undef]
      refine newQ H fun b3 M f H => ?_
      simp (disch:=omega) only [go_sem,undef,H.cs]
      refine callQ H (find_s (H.at 1 rfl) ho x.inst (by omega)) fun M f H => ?_
      rw [hfd]
      have hcl:=ld_cell (lds_at (co_lds (H.at 1 rfl)) hv hl)
      simp (disch:=omega) only [go_sem,undef,H.cs,hpt,Option.isNone_some,hcl,Ld.c]
      refine callQ H (inst_Below_s l.bal x.bal _) fun M f H => ?_
      simp (disch:=omega) only [go_sem,undef,H.cs,dec_f hlb,Bool.not_false]
      exact cm_ex (C':=fun _ => C) 0 co_fw ho H.tail
end Go.Fw
namespace Go.Fw
open Go.Proofs
variable {m m0 M:Mem} {S:List Nat} {L:List As}
variable {cb:Nat} {Y:Ly} {C:Co}
/-- what is known of a core -/
structure Co.Fit (C:Co):Prop where
  xl:IdxOk C.xl
  recs:C.recs.length ≤ 1000000
  leads:C.leads.length ≤ 100000
  wishes:C.wishes.length ≤ 10000
  out:C.out.length ≤ 999000
  n7:C.n ≤ 7
  n2:2 ≤ C.n
  lds:∀ l ∈ C.leads,LdOk l
abbrev asksL (x:Lt):Prop:=x.kind = 1 ∨ x.kind = 3 ∨ x.kind = 6
abbrev Co.gone (C:Co) (i:Int × Int):Prop:=rightI i ∧ i.2 ≤ C.cut.g i.1.toNat
abbrev Co.bars (C:Co) (x:Lt):Prop:=¬ x.right ∨ x.dst ≠ C.me ∨ ¬ oneC C.n x.src ∨ x.kind ≥ 9 ∨ ¬ oneC C.n x.inst.1
/-- a letter is taken -/
def Co.take2 (C:Co) (b:Nat) (x:Lt):Co :=
  if asksL x then C.asked x else if x.kind = 5 then C.told x else if x.kind = 8 then C.refused b x else C.answered x
def Co.take (C:Co) (b:Nat) (x:Lt):Co × Bool :=
  if C.bars x then (C,false) else if C.gone x.inst then (C,decide (asksL x)) else (C.take2 b x,false)
abbrev tkC:NC:=.seq (.block 0 (.seq Q20r6 (.cond (.slot 62) Q20r7 (.seq Q20r8 (.cond (.slot 67) Q20r9 (.seq Q20r10 (.cond (.slot 74) Q20r11 Q20r12)))))))  (.seq Q20r13 .ret)
set_option maxHeartbeats 16000000 in
theorem take_c {C0:Co} {Y0:Ly} {b3:Nat} {x:Lt} {D:Nat → Co × Bool} (hD:∀ b,D b = (C.take2 b x,false)) (hf:C.Fit) (hx:x.right) (ho:Y.ok C)
    (H:Hq m M (coA cb Y0 C0).wp [cellA b3 (.cells x.cs.toArray T_api_Letter (0,0)),coA cb Y C]) :
    wpN Tryz.prog tkC (retP [.slot 4] fun u M => ∃ A',(∃ b,CoR cb (D b).1 (.bool (D b).2) u A') ∧ A'.p M ∧ Fr m M (coA cb Y0 C0).wp ∧ (∀ b ∈ A'.fp,b ∈ (coA cb Y0 C0).fp ∨ m b = none) ∧ ∀ b ∈ A'.wp,b ∈ (coA cb Y0 C0).wp ∨ m b = none) [(0,lp cb),(3,lp b3),(5,.bool (decide (asksL x)))] M:=by
  simp only [hD]
  have hsrc:=hx.2.1
  have hkey:=cmd_key hx.2.2.2.2.2.2.2.1
  have hcel:=hx.2.2.2.2.2.2.2.2.2.1
  have hkc:=cmd_key hcel.2.2.2.2.2.2.2.1
  by_cases ha:asksL x
  · have hp:∀ b,C.take2 b x = C.asked x:=fun b => if_pos ha
    simp only [hp]
    simp (disch:=omega) only [go_sem,undef,H.cs,dec_t ha]
    refine callA 1 H (core_asked_s (H.at 1 rfl) ho x hf.xl hkey hf.recs hf.leads hf.out) rfl fun u M A' hR f H => ?_
    refine hR.E fun Y2 eu ho2 eA => ?_
    subst eu eA
    simp (disch:=omega) only [go_sem,undef]
    exact cm_ex (C':=fun _ => C.asked x) 0 co_fw ho2 H.tail
  by_cases h5:x.kind = 5
  · have hp:∀ b,C.take2 b x = C.told x:=fun b => by unfold Co.take2; rw [if_neg ha,if_pos h5]
    simp only [hp]
    simp (disch:=omega) only [go_sem,undef,H.cs,dec_f ha,dec_t h5]
    refine callA 1 H (core_told_s (H.at 1 rfl) ho x hf.recs hf.leads) rfl fun u M A' hR f H => ?_
    refine hR.E fun Y2 eu ho2 eA => ?_
    subst eu eA
    simp (disch:=omega) only [go_sem,undef]
    exact cm_ex (C':=fun _ => C.told x) 0 co_fw ho2 H.tail
  by_cases h8:x.kind = 8
  · have hp:∀ b,C.take2 b x = C.refused b x:=fun b => by unfold Co.take2; rw [if_neg ha,if_neg h5,if_pos h8]
    simp only [hp]
    simp (disch:=omega) only [go_sem,undef,H.cs,dec_f ha,dec_f h5,dec_t h8]
    refine callA 1 H (core_refused_s (H.at 1 rfl) ho x hf.leads hf.wishes) rfl fun u M A' hR f H => ?_
    refine Exists.elim hR fun bw hR => ?_
    refine hR.E fun Y2 eu ho2 eA => ?_
    subst eu eA
    simp (disch:=omega) only [go_sem,undef]
    exact cm_ex (C':=fun b => C.refused b x) bw co_fw ho2 H.tail
  · have hp:∀ b,C.take2 b x = C.answered x:=fun b => by unfold Co.take2; rw [if_neg ha,if_neg h5,if_neg h8]
    simp only [hp]
    simp (disch:=omega) only [go_sem,undef,H.cs,dec_f ha,dec_f h5,dec_f h8]
    refine callA 1 H (core_answered_s (H.at 1 rfl) ho x hsrc.1 hsrc.2 hf.xl hf.recs hf.leads hf.n7 hf.n2 hf.out hf.lds hkc) rfl fun u M A' hR f H => ?_
    refine hR.E fun Y2 eu ho2 eA => ?_
    subst eu eA
    simp (disch:=omega) only [go_sem,undef]
    exact cm_ex (C':=fun _ => C.answered x) 0 co_fw ho2 H.tail
abbrev tkB:NC:=.seq Q20r3 (.seq (.seq Q20r4 (.cond (.slot 57) (.seq Q20r5 .ret) .skip)) tkC)
set_option maxHeartbeats 16000000 in
theorem take_b {C0:Co} {Y0:Ly} {E:Env} {b3:Nat} {x:Lt} {D:Nat → Co × Bool} (hD:∀ b,D b = if C.gone x.inst then (C,decide (asksL x)) else (C.take2 b x,false)) (hf:C.Fit) (hx:x.right) (ho:Y.ok C)
    (H:Hq m M (coA cb Y0 C0).wp [cellA b3 (.cells x.cs.toArray T_api_Letter (0,0)),coA cb Y C])
    (e0:E.get 0 = lp cb) (e3:E.get 3 = lp b3) (h0:E.has 0 = true) (h3:E.has 3 = true) :
    wpN Tryz.prog tkB (retP [.slot 4] fun u M => ∃ A',(∃ b,CoR cb (D b).1 (.bool (D b).2) u A') ∧ A'.p M ∧ Fr m M (coA cb Y0 C0).wp ∧ (∀ b ∈ A'.fp,b ∈ (coA cb Y0 C0).fp ∨ m b = none) ∧ ∀ b ∈ A'.wp,b ∈ (coA cb Y0 C0).wp ∨ m b = none) E M:=by
  have key:∀ (E1:Env),E1.get 0 = lp cb → E1.get 3 = lp b3 → E1.get 5 = .bool (decide (asksL x)) → E1.has 0 = true → E1.has 3 = true → E1.has 5 = true →
      wpN Tryz.prog (.seq (.seq Q20r4 (.cond (.slot 57) (.seq Q20r5 .ret) .skip)) tkC) (retP [.slot 4] fun u M => ∃ A',(∃ b,CoR cb (D b).1 (.bool (D b).2) u A') ∧ A'.p M ∧ Fr m M (coA cb Y0 C0).wp ∧ (∀ b ∈ A'.fp,b ∈ (coA cb Y0 C0).fp ∨ m b = none) ∧ ∀ b ∈ A'.wp,b ∈ (coA cb Y0 C0).wp ∨ m b = none) E1 M:=by
    intro E1 g0 g3 g5 k0 k3 k5
    generalize hC:tkC = T
    by_cases hg:C.gone x.inst
    · have hD:∀ b,D b = (C,decide (asksL x)):=fun b => (hD b).trans (if_pos hg)
      simp only [hD]
      simp (disch:=omega) only [go_sem,undef,g0,g3,g5,k0,k3,k5,H.cs,co_cell (H.at 1 rfl),Ly.c]
      refine callQ H (log_Gone_s (co_log (H.at 1 rfl)) x.inst) fun M f H => ?_
      simp (disch:=omega) only [go_sem,undef,g0,g3,g5,k0,k3,k5,dec_t hg]
      exact cm_ex (C':=fun _ => C) 0 co_fw ho H.tail
    · have hD:∀ b,D b = (C.take2 b x,false):=fun b => (hD b).trans (if_neg hg)
      simp (disch:=omega) only [go_sem,undef,g0,g3,g5,k0,k3,k5,H.cs,co_cell (H.at 1 rfl),Ly.c]
      refine callQ H (log_Gone_s (co_log (H.at 1 rfl)) x.inst) fun M f H => ?_
      simp (disch:=omega) only [go_sem,undef,g0,g3,g5,k0,k3,k5,dec_f hg]
      subst hC
      exact take_c hD hf hx ho H
  show wpN Tryz.prog (.seq Q20r3 (.seq (.seq Q20r4 (.cond (.slot 57) (.seq Q20r5 .ret) .skip)) tkC)) _ E M
  generalize hC:(NC.seq (.seq Q20r4 (.cond (.slot 57) (.seq Q20r5 .ret) .skip)) tkC) = T at *
  by_cases h1:x.kind = 1
  · simp (disch:=omega) only [go_sem,undef,e0,e3,h0,h3,H.cs,dec_t h1]
    exact key _ rfl rfl (by rw [dec_t (show asksL x from .inl h1)]; rfl) rfl rfl rfl
  by_cases hk3:x.kind = 3
  · simp (disch:=omega) only [go_sem,undef,e0,e3,h0,h3,H.cs,dec_f h1,dec_t hk3]
    exact key _ rfl rfl (by rw [dec_t (show asksL x from .inr (.inl hk3))]; rfl) rfl rfl rfl
  by_cases h6:x.kind = 6
  · simp (disch:=omega) only [go_sem,undef,e0,e3,h0,h3,H.cs,dec_f h1,dec_f hk3,dec_t h6]
    exact key _ rfl rfl (by rw [dec_t (show asksL x from .inr (.inr h6))]; rfl) rfl rfl rfl
  · simp (disch:=omega) only [go_sem,undef,e0,e3,h0,h3,H.cs,dec_f h1,dec_f hk3,dec_f h6]
    exact key _ rfl rfl (by rw [dec_f (show ¬ asksL x from fun h => h.elim h1 fun h => h.elim hk3 h6)]; rfl) rfl rfl rfl
theorem take_code:Q20c = .seq Q20r0 (.seq (.seq Q20r1 (.cond (.slot 37) (.seq Q20r2 .ret) .skip)) tkB):=rfl
set_option maxHeartbeats 16000000 in
/-- **Take** -/
theorem core_Take_s (h:(coA cb Y C).p m) (ho:Y.ok C) (hf:C.Fit) (x:Lt) :
    CM Tryz.prog n_core_Core_Take [lp cb,x.v] m (coA cb Y C) (fun u A => ∃ b,CoR cb (C.take b x).1 (.bool (C.take b x).2) u A):=by
  have H:=Hq.one h
  refine Q20go (by simp [Tryz.f33]) ?_
  rw [take_code]
  have hone:=fun M (hA:(coA cb Y C).p M) (r:Int) => core_one_s hA r
  generalize hC:tkB = T
  by_cases hbar:C.bars x
  · have hD:∀ b,C.take b x = (C,false):=fun b => if_pos hbar
    simp only [hD]
    simp (disch:=omega) only [go_sem,undef]
    refine newQ H fun b3 M f H => ?_
    simp (disch:=omega) only [go_sem,undef,H.cs]
    refine callQ H (letter_Right_s x _) fun M f H => ?_
    by_cases h1:x.right
    · by_cases h2:x.dst = C.me
      · simp (disch:=omega) only [go_sem,undef,H.cs,dec_t h1,Bool.not_true,co_cell (H.at 1 rfl),Ly.c,dec_f (show ¬ x.dst ≠ C.me from fun h => h h2)]
        refine callQ H (hone _ (H.at 1 rfl) x.src) fun M f H => ?_
        by_cases h3:oneC C.n x.src
        · by_cases h4:x.kind ≥ 9
          · simp (disch:=omega) only [go_sem,undef,H.cs,dec_t h3,Bool.not_true,dec_t h4]
            exact cm_ex (C':=fun _ => C) 0 co_fw ho H.tail
          · have h5:¬ oneC C.n x.inst.1:=by
              rcases hbar with h | h | h | h | h
              · exact absurd h1 h
              · exact absurd h2 h
              · exact absurd h3 h
              · exact absurd h h4
              · exact h
            simp (disch:=omega) only [go_sem,undef,H.cs,dec_t h3,Bool.not_true,dec_f h4]
            refine callQ H (hone _ (H.at 1 rfl) x.inst.1) fun M f H => ?_
            simp (disch:=omega) only [go_sem,undef,H.cs,dec_f h5,Bool.not_false]
            exact cm_ex (C':=fun _ => C) 0 co_fw ho H.tail
        · simp (disch:=omega) only [go_sem,undef,H.cs,dec_f h3,Bool.not_false]
          exact cm_ex (C':=fun _ => C) 0 co_fw ho H.tail
      · simp (disch:=omega) only [go_sem,undef,H.cs,dec_t h1,Bool.not_true,co_cell (H.at 1 rfl),Ly.c,dec_t (show x.dst ≠ C.me from h2)]
        exact cm_ex (C':=fun _ => C) 0 co_fw ho H.tail
    · simp (disch:=omega) only [go_sem,undef,H.cs,dec_f h1,Bool.not_false]
      exact cm_ex (C':=fun _ => C) 0 co_fw ho H.tail
  · have hD:∀ b,C.take b x = if C.gone x.inst then (C,decide (asksL x)) else (C.take2 b x,false):=fun b => if_neg hbar
    have h1:x.right:=Classical.byContradiction fun h => hbar (.inl h)
    have h2:¬ x.dst ≠ C.me:=fun h => hbar (.inr (.inl h))
    have h3:oneC C.n x.src:=Classical.byContradiction fun h => hbar (.inr (.inr (.inl h)))
    have h4:¬ x.kind ≥ 9:=fun h => hbar (.inr (.inr (.inr (.inl h))))
    have h5:oneC C.n x.inst.1:=Classical.byContradiction fun h => hbar (.inr (.inr (.inr (.inr h))))
    simp (disch:=omega) only [go_sem,undef]
    refine newQ H fun b3 M f H => ?_
    simp (disch:=omega) only [go_sem,undef,H.cs]
    refine callQ H (letter_Right_s x _) fun M f H => ?_
    simp (disch:=omega) only [go_sem,undef,H.cs,dec_t h1,Bool.not_true,co_cell (H.at 1 rfl),Ly.c,dec_f h2]
    refine callQ H (hone _ (H.at 1 rfl) x.src) fun M f H => ?_
    simp (disch:=omega) only [go_sem,undef,H.cs,dec_t h3,Bool.not_true,dec_f h4]
    refine callQ H (hone _ (H.at 1 rfl) x.inst.1) fun M f H => ?_
    simp (disch:=omega) only [go_sem,undef,H.cs,dec_t h5,Bool.not_true]
    subst hC
    exact take_b (D:=fun b => C.take b x) hD hf h1 ho H rfl rfl rfl rfl
end Go.Fw
namespace Go.Fw
open Go.Proofs
variable {m m0 M:Mem} {S:List Nat} {L:List As}
variable {cb:Nat} {Y:Ly} {C:Co}
theorem inst_Next_s (b:Int × Int) (r:Int) (hb:b.1 ≤ 1000000000000) (hb0:-1000000000000 ≤ b.1) (m:Mem):MC Tryz.prog n_inst_Next [pv b,.int .i64 r] m fun v m' => v = pv (b.1 + 1,r) ∧ Fr m m' []:=by
  refine Q38go (by simp [Tryz.f33]) ?_
  have H:=Hq.refl m []
  simp (disch:=omega) only [go_sem,undef]
  repeat' (first
    | ((with_reducible refine newQ H fun _ _ f H2 => ?_); clear f; clear H; have H:=H2; clear H2; simp (disch:=omega) only [go_sem,undef,H.cs, *])
    | ((with_reducible refine wrQ0 H fun _ f H2 => ?_); clear f; clear H; have H:=H2; clear H2; simp (disch:=omega) only [go_sem,undef,H.cs, *])
    | ((with_reducible refine wrQ1 H fun _ f H2 => ?_); clear f; clear H; have H:=H2; clear H2; simp (disch:=omega) only [go_sem,undef,H.cs, *])
    | ((with_reducible refine wrQ2 H fun _ f H2 => ?_); clear f; clear H; have H:=H2; clear H2; simp (disch:=omega) only [go_sem,undef,H.cs, *])
    | ((with_reducible refine wrQ3 H fun _ f H2 => ?_); clear f; clear H; have H:=H2; clear H2; simp (disch:=omega) only [go_sem,undef,H.cs, *])
    | ((with_reducible refine wrQ4 H fun _ f H2 => ?_); clear f; clear H; have H:=H2; clear H2; simp (disch:=omega) only [go_sem,undef,H.cs, *])
    | ((with_reducible refine wrQ5 H fun _ f H2 => ?_); clear f; clear H; have H:=H2; clear H2; simp (disch:=omega) only [go_sem,undef,H.cs, *])
    | ((with_reducible refine stwQ0 H ?hl ?h1 fun _ f H2 => ?_); (case hl => rfl); (case h1 => rfl); clear f; clear H; have H:=H2; clear H2; simp (disch:=omega) only [go_sem,undef,H.cs, *])
    | ((with_reducible refine stwQ1 H ?hl ?h1 fun _ f H2 => ?_); (case hl => rfl); (case h1 => rfl); clear f; clear H; have H:=H2; clear H2; simp (disch:=omega) only [go_sem,undef,H.cs, *])
    | ((with_reducible refine stwQ2 H ?hl ?h1 fun _ f H2 => ?_); (case hl => rfl); (case h1 => rfl); clear f; clear H; have H:=H2; clear H2; simp (disch:=omega) only [go_sem,undef,H.cs, *])
    | ((with_reducible refine stwQ3 H ?hl ?h1 fun _ f H2 => ?_); (case hl => rfl); (case h1 => rfl); clear f; clear H; have H:=H2; clear H2; simp (disch:=omega) only [go_sem,undef,H.cs, *])
    | ((with_reducible refine stwQ4 H ?hl ?h1 fun _ f H2 => ?_); (case hl => rfl); (case h1 => rfl); clear f; clear H; have H:=H2; clear H2; simp (disch:=omega) only [go_sem,undef,H.cs, *])
    | ((with_reducible refine stwQ5 H ?hl ?h1 fun _ f H2 => ?_); (case hl => rfl); (case h1 => rfl); clear f; clear H; have H:=H2; clear H2; simp (disch:=omega) only [go_sem,undef,H.cs, *])
    | ((with_reducible refine stQ0 H ?hl ?h1 fun _ f H2 => ?_); (case hl => exact Nat.le_of_ble_eq_true rfl); (case h1 => rfl); clear f; (simp only [go_sem] at H2); clear H; have H:=H2; clear H2; simp (disch:=omega) only [go_sem,undef,H.cs, *])
    | ((with_reducible refine stQ1 H ?hl ?h1 fun _ f H2 => ?_); (case hl => exact Nat.le_of_ble_eq_true rfl); (case h1 => rfl); clear f; (simp only [go_sem] at H2); clear H; have H:=H2; clear H2; simp (disch:=omega) only [go_sem,undef,H.cs, *])
    | ((with_reducible refine stQ2 H ?hl ?h1 fun _ f H2 => ?_); (case hl => exact Nat.le_of_ble_eq_true rfl); (case h1 => rfl); clear f; (simp only [go_sem] at H2); clear H; have H:=H2; clear H2; simp (disch:=omega) only [go_sem,undef,H.cs, *])
    | ((with_reducible refine stQ3 H ?hl ?h1 fun _ f H2 => ?_); (case hl => exact Nat.le_of_ble_eq_true rfl); (case h1 => rfl); clear f; (simp only [go_sem] at H2); clear H; have H:=H2; clear H2; simp (disch:=omega) only [go_sem,undef,H.cs, *])
    | ((with_reducible refine gQ_split (fun hq => ?_) (fun hq => ?_)) <;> (try simp only [Bool.not_true,Bool.not_false] at hq) <;> simp (disch:=omega) only [go_sem,undef,H.cs, *])
    | ((with_reducible refine condB_split (fun hq => ?_) (fun hq => ?_)) <;> simp (disch:=omega) only [go_sem,undef,H.cs, *]))
  all_goals exact ⟨rfl,H.fr⟩
/-- at which ballot a recovery begins from -/
def Co.bas2 (C:Co) (p:Int × Int):Option Nat → Int × Int
  | none => p
  | some j => match C.wishes[j]? with
    | none => p
    | some w => if lt2 p w.told then w.told else p
def Co.bas (C:Co) (i:Int × Int):Int × Int:=C.bas2 (C.at i).pr (fdW i C.wishes)
def recLd (i:Int × Int) (me:Nat) (x:Cel):Ld:={ newLd i 2 x.pr false Cmd.zero Att.zero with said:=[⟨(me:Nat),x⟩] }
def Co.rec2 (C:Co) (i:Int × Int) (x:Cel):Co × Bool :=
  if rightB x.pr then (if (C.set i x).2 = true then ((C.set i x).1.beginE (recLd i C.me x),true) else ((C.set i x).1,false)) else (C,false)
/-- an instance is recovered -/
def Co.recover (C:Co) (i:Int × Int):Co × Bool :=
  if ¬ C.opn i ∨ (C.leads.length ≥ 256 ∧ fdL i C.leads = none) then (C,false) else C.rec2 i { C.at i with pr:=((C.bas i).1 + 1,(C.me:Nat)) }
theorem LdC.lay_s (c:LdC) (p:Int × Int) (w:Int) (b:Int × Int) (a:Option Addr) (n k:Nat):lay c.cs [(0,2),(2,1),(3,2),(29,1)] [.agg (pc p).toArray,.int .i64 w,.agg (pc b).toArray,.slice a n k] = some ({ c with id:=p,way:=w,bal:=b,sd:=.slice a n k }:LdC).cs:=rfl
attribute [go_sem] LdC.lay_s
theorem rec_ld {b b2:Nat} {i:Int × Int} {me:Nat} {x:Cel} (H:Hq m0 m S (cellA b (.cells (LdC.mk i 2 x.pr false Cmd.zero Att.zero Dp.zero (.slice none 0 0) (.slice (some ⟨b2,0,none⟩) 1 1) 0 0).cs.toArray T_core_lead (0,0)) :: cellA b2 (.cells (Sd.mk (me:Nat) x).cs.toArray T_quorum_Said (0,0)) :: L)) :
    Hq m0 m S (ldA ⟨b,.slice none 0 0,.slice (some ⟨b2,0,none⟩) 1 1⟩ (recLd i me x) :: L):=by
  have H:=(H.perm (List.Perm.swap ..)).toRow 22 1 1 rfl (Nat.le_refl _)
  have H:=H.nilRow T_api_Attr 8
  have H:Hq m0 m S ([cellA b (.cells (LdC.mk i 2 x.pr false Cmd.zero Att.zero Dp.zero (.slice none 0 0) (.slice (some ⟨b2,0,none⟩) 1 1) 0 0).cs.toArray T_core_lead (0,0)),ownA T_api_Attr 8 (.slice none 0 0) 0 [],ownA T_quorum_Said 22 (.slice (some ⟨b2,0,none⟩) 1 1) 1 (Sd.mk (me:Nat) x).cs] ++ L):=by
    exact H.perm (List.perm_middle (l₁:=[ownA T_api_Attr 8 (.slice none 0 0) 0 [],ownA T_quorum_Said 22 (.slice (some ⟨b2,0,none⟩) 1 1) 1 (Sd.mk (me:Nat) x).cs]) (l₂:=L)).symm
  have e:(recLd i me x).said.flatMap Sd.cs = (Sd.mk (me:Nat) x).cs:=by simp [recLd]
  have H2:=Hq.joinL H
  have hl:(recLd i me x).said.length = 1:=rfl
  unfold ldA
  rw [e,hl]
  exact H2
abbrev rcA:NC:=.seq Q14r8 (.seq (.seq Q14r9 (.cond (.slot 72) (.seq Q14r10 .ret) .skip)) (.seq Q14r11 (.seq Q14r12 .ret)))
set_option maxHeartbeats 16000000 in
theorem rec_c {C0:Co} {Y0:Ly} {E:Env} {b3 b5 b7:Nat} {i p:Int × Int} {x:Cel} (ho:Y.ok C) (hp:p.1 ≤ 1000000000000) (hp0:-1000000000000 ≤ p.1) (hrec:C.recs.length ≤ 1000000) (hn:C.leads.length ≤ 100000) (hn7:C.n ≤ 7) (hout:C.out.length ≤ 999000)
    (H:Hq m M (coA cb Y0 C0).wp [cellA b7 (.cells (pc p).toArray T_api_Ballot (0,0)),cellA b5 (.cells x.cs.toArray T_api_Cell (0,0)),cellA b3 (.cells (pc i).toArray T_api_Inst (0,0)),coA cb Y C])
    (e0:E.get 0 = lp cb) (e3:E.get 3 = lp b3) (e5:E.get 5 = lp b5) (e7:E.get 7 = lp b7) (h0:E.has 0 = true) (h3:E.has 3 = true) (h5:E.has 5 = true) (h7:E.has 7 = true) :
    wpN Tryz.prog rcA (retP [.slot 4] fun u M => ∃ A',CoR cb (C.rec2 i { x with pr:=(p.1 + 1,(C.me:Nat)) }).1 (.bool (C.rec2 i { x with pr:=(p.1 + 1,(C.me:Nat)) }).2) u A' ∧ A'.p M ∧ Fr m M (coA cb Y0 C0).wp ∧ (∀ b ∈ A'.fp,b ∈ (coA cb Y0 C0).fp ∨ m b = none) ∧ ∀ b ∈ A'.wp,b ∈ (coA cb Y0 C0).wp ∨ m b = none) E M:=by
  simp (disch:=omega) only [go_sem,undef,e0,e3,e5,e7,h0,h3,h5,h7,H.cs,co_cell (H.at 3 rfl),Ly.c]
  refine callQ H (inst_Next_s p (C.me:Nat) hp hp0 _) fun M f H => ?_
  simp (disch:=omega) only [go_sem,undef,e0,e3,e5,e7,h0,h3,h5,h7,H.cs,co_cell (H.at 3 rfl),Ly.c]
  refine stQ1 H (Nat.le_of_ble_eq_true rfl) rfl fun M f H => ?_
  have H:Hq m M (coA cb Y0 C0).wp [cellA b7 (.cells (pc p).toArray T_api_Ballot (0,0)),cellA b5 (.cells ({ x with pr:=(p.1 + 1,(C.me:Nat)) }:Cel).cs.toArray T_api_Cell (0,0)),cellA b3 (.cells (pc i).toArray T_api_Inst (0,0)),coA cb Y C]:=H
  have hxp:({ x with pr:=(p.1 + 1,(C.me:Nat)) }:Cel).pr = (p.1 + 1,((C.me:Nat):Int)):=rfl
  generalize ({ x with pr:=(p.1 + 1,(C.me:Nat)) }:Cel) = y at *
  have hss:=coset_same C i y
  by_cases hr:rightB y.pr
  · have hp:C.rec2 i y = if (C.set i y).2 = true then ((C.set i y).1.beginE (recLd i C.me y),true) else ((C.set i y).1,false):=if_pos hr
    rw [hp]
    simp (disch:=omega) only [go_sem,undef,e0,e3,e5,e7,h0,h3,h5,h7,H.cs]
    refine callQ H (inst_RightBallot_s y.pr _) fun M f H => ?_
    simp (disch:=omega) only [go_sem,undef,e0,e3,e5,e7,h0,h3,h5,h7,H.cs,dec_t hr,Bool.not_true]
    refine callA 3 H (core_set_s (H.at 3 rfl) ho i y hrec) rfl fun u M A' hR f H => ?_
    refine hR.E fun Y1 eu ho1 eA => ?_
    subst eu eA
    clear hR hp
    have hme:(C.set i y).1.me = C.me:=hss.2.2.2
    generalize C.set i y = r at *
    obtain ⟨C1,ok⟩:=r
    have hme:C1.me = C.me:=hme
    have Hn:Hq m M (coA cb Y0 C0).wp [cellA b7 (.cells (pc p).toArray T_api_Ballot (0,0)),cellA b5 (.cells y.cs.toArray T_api_Cell (0,0)),cellA b3 (.cells (pc i).toArray T_api_Inst (0,0)),coA cb Y1 C1]:=H
    clear H
    cases ok with
    | true =>
      have H:=Hn
      simp (disch:=omega) only [go_sem,undef,e0,e3,e5,e7,h0,h3,h5,h7,H.cs,Bool.not_true,co_cell (H.at 3 rfl),Ly.c,hme]
      refine newQ H fun b10 M f H => ?_
      simp (disch:=omega) only [go_sem,undef,e0,e3,e5,e7,h0,h3,h5,h7,H.cs,co_cell (H.at 4 rfl),Ly.c,hme]
      refine newQ H fun b12 M f H => ?_
      have H:=rec_ld H
      rw [hme] at H
      have H:Hq m M (coA cb Y0 C0).wp (ldA ⟨b12,.slice none 0 0,.slice (some ⟨b10,0,none⟩) 1 1⟩ (recLd i C.me y) :: coA cb Y1 C1 :: []):=H.sel 5 [0,4] rfl (by decide) (by decide)
      have H:=Hq.join H
      simp (disch:=omega) only [go_sem,undef,e0,e3,e5,e7,h0,h3,h5,h7]
      refine callA0 H (core_begin_s (H.at 0 rfl) ho1 (Nat.le_trans (Nat.le_of_eq (congrArg List.length hss.1)) hn) (Nat.le_trans (Nat.le_of_eq hss.2.1) hn7) (Nat.le_trans (Nat.le_of_eq (congrArg List.length hss.2.2.1)) hout)) fun u M A' hR f H => ?_
      refine hR.E fun Y2 eu ho2 eA => ?_
      subst eu eA
      simp (disch:=omega) only [go_sem,undef]
      exact cx_fin co_fw ho2 H
    | false =>
      have H:=Hn
      simp (disch:=omega) only [go_sem,undef,e0,e3,e5,e7,h0,h3,h5,h7,H.cs,Bool.not_false]
      exact cx_fin co_fw ho1 H.tail.tail.tail
  · have hp:C.rec2 i y = (C,false):=if_neg hr
    rw [hp]
    simp (disch:=omega) only [go_sem,undef,e0,e3,e5,e7,h0,h3,h5,h7,H.cs]
    refine callQ H (inst_RightBallot_s y.pr _) fun M f H => ?_
    simp (disch:=omega) only [go_sem,undef,e0,e3,e5,e7,h0,h3,h5,h7,H.cs,dec_f hr,Bool.not_false]
    exact cx_fin co_fw ho H.tail.tail.tail
end Go.Fw
namespace Go.Fw
open Go.Proofs
variable {m m0 M:Mem} {S:List Nat} {L:List As}
variable {cb:Nat} {Y:Ly} {C:Co}
abbrev rcB:NC:=.seq Q14r4 (.seq (.seq Q14r5 (.seq Q14r6 (.cond (.slot 50) Q14r7 .skip))) rcA)
set_option maxHeartbeats 16000000 in
theorem rec_b {C0:Co} {Y0:Ly} {E:Env} {b3 b5:Nat} {i:Int × Int} {x:Cel} {p:Int × Int} (hpd:C.bas2 x.pr (fdW i C.wishes) = p) (ho:Y.ok C) (hp:p.1 ≤ 1000000000000) (hp0:-1000000000000 ≤ p.1) (hrec:C.recs.length ≤ 1000000) (hn:C.leads.length ≤ 100000) (hnw:C.wishes.length ≤ 10000) (hn7:C.n ≤ 7) (hout:C.out.length ≤ 999000)
    (H:Hq m M (coA cb Y0 C0).wp [cellA b5 (.cells x.cs.toArray T_api_Cell (0,0)),cellA b3 (.cells (pc i).toArray T_api_Inst (0,0)),coA cb Y C])
    (e0:E.get 0 = lp cb) (e3:E.get 3 = lp b3) (e5:E.get 5 = lp b5) (h0:E.has 0 = true) (h3:E.has 3 = true) (h5:E.has 5 = true) :
    wpN Tryz.prog rcB (retP [.slot 4] fun u M => ∃ A',CoR cb (C.rec2 i { x with pr:=(p.1 + 1,(C.me:Nat)) }).1 (.bool (C.rec2 i { x with pr:=(p.1 + 1,(C.me:Nat)) }).2) u A' ∧ A'.p M ∧ Fr m M (coA cb Y0 C0).wp ∧ (∀ b ∈ A'.fp,b ∈ (coA cb Y0 C0).fp ∨ m b = none) ∧ ∀ b ∈ A'.wp,b ∈ (coA cb Y0 C0).wp ∨ m b = none) E M:=by
  have hlen:=ho.wss
  show wpN Tryz.prog (.seq Q14r4 (.seq (.seq Q14r5 (.seq Q14r6 (.cond (.slot 50) Q14r7 .skip))) rcA)) _ E M
  generalize hC:rcA = T
  cases h2:fdW i C.wishes with
  | none =>
    rw [h2] at hpd
    have hpd:x.pr = p:=hpd
    have hpt:ptW Y.wss none = .pointer none:=rfl
    simp (disch:=omega) only [go_sem,undef,e0,e3,e5,h0,h3,h5,H.cs]
    refine newQ H fun b7 M f H => ?_
    simp (disch:=omega) only [go_sem,undef,e0,e3,e5,h0,h3,h5,H.cs]
    refine stwQ0 H rfl rfl fun M f H => ?_
    simp (disch:=omega) only [go_sem,undef,e0,e3,e5,h0,h3,h5,H.cs]
    refine callQ H (wished_s (H.at 3 rfl) ho i (by omega)) fun M f H => ?_
    rw [h2]
    simp (disch:=omega) only [go_sem,undef,e0,e3,e5,h0,h3,h5,H.cs,hpt,pnn_f]
    subst hC
    rw [hpd] at H
    exact rec_c ho hp hp0 hrec hn hn7 hout H rfl rfl rfl rfl rfl rfl rfl rfl
  | some j =>
    have hjl:=fdW_le h2
    refine Exists.elim (⟨Y.wss[j]'(by omega),List.getElem?_eq_getElem (by omega)⟩:∃ v,Y.wss[j]? = some v) fun v hv => ?_
    refine Exists.elim (⟨C.wishes[j],List.getElem?_eq_getElem hjl⟩:∃ w,C.wishes[j]? = some w) fun w hw => ?_
    have hpt:ptW Y.wss (some j) = lp v:=by simp [ptW,hv]
    have hpd:(if lt2 x.pr w.told then w.told else x.pr) = p:=by rw [h2] at hpd; simpa only [Co.bas2,hw] using hpd
    simp (disch:=omega) only [go_sem,undef,e0,e3,e5,h0,h3,h5,H.cs]
    refine newQ H fun b7 M f H => ?_
    simp (disch:=omega) only [go_sem,undef,e0,e3,e5,h0,h3,h5,H.cs]
    refine stwQ0 H rfl rfl fun M f H => ?_
    simp (disch:=omega) only [go_sem,undef,e0,e3,e5,h0,h3,h5,H.cs]
    refine callQ H (wished_s (H.at 3 rfl) ho i (by omega)) fun M f H => ?_
    rw [h2]
    have hcw:=ws_cell (wss_at (co_wss (H.at 3 rfl)) hv hw)
    simp (disch:=omega) only [go_sem,undef,e0,e3,e5,h0,h3,h5,H.cs,hpt,pnn_t,hcw]
    refine callQ H (inst_Below_s x.pr w.told _) fun M f H => ?_
    have hcw:=ws_cell (wss_at (co_wss (H.at 3 rfl)) hv hw)
    by_cases hb:lt2 x.pr w.told
    · rw [if_pos hb] at hpd
      simp (disch:=omega) only [go_sem,undef,e0,e3,e5,h0,h3,h5,H.cs,hcw,dec_t hb]
      refine stwQ0 H rfl rfl fun M f H => ?_
      simp (disch:=omega) only [go_sem,undef,e0,e3,e5,h0,h3,h5]
      subst hC
      rw [hpd] at H
      exact rec_c ho hp hp0 hrec hn hn7 hout H rfl rfl rfl rfl rfl rfl rfl rfl
    · rw [if_neg hb] at hpd
      simp (disch:=omega) only [go_sem,undef,e0,e3,e5,h0,h3,h5,H.cs,hcw,dec_f hb]
      subst hC
      rw [hpd] at H
      exact rec_c ho hp hp0 hrec hn hn7 hout H rfl rfl rfl rfl rfl rfl rfl rfl
theorem recover_code:Q14c = .seq Q14r0 (.seq (.seq Q14r1 (.cond (.slot 26) (.seq Q14r2 .ret) .skip)) (.seq Q14r3 rcB)):=rfl
set_option maxHeartbeats 16000000 in
/-- **Recover** -/
theorem core_Recover_s (h:(coA cb Y C).p m) (ho:Y.ok C) (i:Int × Int) (hb:(C.bas i).1 ≤ 1000000000000) (hb0:-1000000000000 ≤ (C.bas i).1) (hrec:C.recs.length ≤ 1000000) (hn:C.leads.length ≤ 100000) (hnw:C.wishes.length ≤ 10000) (hn7:C.n ≤ 7) (hout:C.out.length ≤ 999000) :
    CM Tryz.prog n_core_Core_Recover [lp cb,pv i] m (coA cb Y C) (CoR cb (C.recover i).1 (.bool (C.recover i).2)):=by
  have H:=Hq.one h
  have hlen:=ho.lds
  refine Own.formK (co_lrow h) fun a c hv => ?_
  refine Q14go (by simp [Tryz.f33]) ?_
  rw [recover_code]
  generalize hC:rcB = T
  have hpd:C.bas2 (C.at i).pr (fdW i C.wishes) = C.bas i:=rfl
  by_cases h1:C.opn i
  · have hend:∀ (E1:Env),E1.get 0 = lp cb → ∀ b3,E1.get 3 = lp b3 → E1.has 0 = true → E1.has 3 = true → ∀ M,Hq m M (coA cb Y C).wp [cellA b3 (.cells (pc i).toArray T_api_Inst (0,0)),coA cb Y C] →
        wpN Tryz.prog (.seq Q14r3 T) (retP [.slot 4] fun u M => ∃ A',CoR cb (C.rec2 i { C.at i with pr:=((C.bas i).1 + 1,(C.me:Nat)) }).1 (.bool (C.rec2 i { C.at i with pr:=((C.bas i).1 + 1,(C.me:Nat)) }).2) u A' ∧ A'.p M ∧ Fr m M (coA cb Y C).wp ∧ (∀ b ∈ A'.fp,b ∈ (coA cb Y C).fp ∨ m b = none) ∧ ∀ b ∈ A'.wp,b ∈ (coA cb Y C).wp ∨ m b = none) E1 M:=by
      intro E1 g0 b3 g3 k0 k3 M H
      have hx:(lkC i C.lg).getD Cel.zero = C.at i:=rfl
      simp (disch:=omega) only [go_sem,undef,g0,g3,k0,k3,H.cs,co_cell (H.at 1 rfl),Ly.c]
      refine both_intro ?_ ?_
      · simp (disch:=omega) only [go_sem,undef,g0,g3,k0,k3,H.cs,co_cell (H.at 1 rfl),Ly.c]
        refine callQ H (log_Cell_s (co_log (H.at 1 rfl)) i) fun M f H => ?_
        rw [hx]
        simp (disch:=omega) only [go_sem,undef,g0,g3,k0,k3,H.cs,co_cell (H.at 1 rfl),Ly.c]
        refine newQ H fun b5 M f H => ?_
        simp (disch:=omega) only [go_sem,undef,g0,g3,k0,k3,H.cs,co_cell (H.at 2 rfl),Ly.c]
        refine stwQ0 H rfl rfl fun M f H => ?_
        simp (disch:=omega) only [go_sem,undef,g0,g3,k0,k3]
        subst hC
        exact rec_b hpd ho hb hb0 hrec hn hnw hn7 hout H rfl rfl rfl rfl rfl rfl
      · simp (disch:=omega) only [go_sem,undef,g0,g3,k0,k3,H.cs,co_cell (H.at 1 rfl),Ly.c]
        refine newQ H fun b5 M f H => ?_
        simp (disch:=omega) only [go_sem,undef,g0,g3,k0,k3,H.cs,co_cell (H.at 2 rfl),Ly.c]
        refine callQ H (log_Cell_s (co_log (H.at 2 rfl)) i) fun M f H => ?_
        rw [hx]
        simp (disch:=omega) only [go_sem,undef,g0,g3,k0,k3,H.cs,co_cell (H.at 2 rfl),Ly.c]
        refine stwQ0 H rfl rfl fun M f H => ?_
        simp (disch:=omega) only [go_sem,undef,g0,g3,k0,k3]
        subst hC
        exact rec_b hpd ho hb hb0 hrec hn hnw hn7 hout H rfl rfl rfl rfl rfl rfl
    generalize hC2:(NC.seq Q14r3 T) = T2 at *
    by_cases h3:C.leads.length ≥ 256
    · have hfo:(∃ j,fdL i C.leads = some j) ∨ fdL i C.leads = none:=by
        cases fdL i C.leads with
        | none => exact .inr rfl
        | some j => exact .inl ⟨j,rfl⟩
      rcases hfo with ⟨j,hf⟩ | hf
      · have hp:C.recover i = C.rec2 i { C.at i with pr:=((C.bas i).1 + 1,(C.me:Nat)) }:=if_neg (fun h => h.elim (fun h => h h1) fun h => by have:=h.2; rw [hf] at this; cases this)
        rw [hp]
        have hjl:j < C.leads.length:=by
          unfold fdL at hf
          rw [List.findIdx?_eq_some_iff_getElem] at hf
          exact hf.1
        refine Exists.elim (⟨Y.lds[j]'(by omega),List.getElem?_eq_getElem (by omega)⟩:∃ v,Y.lds[j]? = some v) fun v hvj => ?_
        have hpt:ptO Y.lds (some j) = lp v.b:=by simp [ptO,hvj]
        simp (disch:=omega) only [go_sem,undef]
        refine newQ H fun b3 M f H => ?_
        simp (disch:=omega) only [go_sem,undef,H.cs]
        refine callQ H (core_open_s (H.at 1 rfl) i) fun M f H => ?_
        simp (disch:=omega) only [go_sem,undef,H.cs,dec_t h1,Bool.not_true,co_cell (H.at 1 rfl),Ly.c,hv,dec_t (show ((Y.lds.length:Nat):Int) ≥ 256 by omega)]
        refine callQ H (find_s (H.at 1 rfl) ho i (by omega)) fun M f H => ?_
        rw [hf]
        simp (disch:=omega) only [go_sem,undef,H.cs,hpt,Option.isNone_some]
        exact hend _ rfl _ rfl rfl rfl _ H
      · have hp:C.recover i = (C,false):=if_pos (.inr ⟨h3,hf⟩)
        rw [hp]
        have hpt:ptO Y.lds none = .pointer none:=rfl
        simp (disch:=omega) only [go_sem,undef]
        refine newQ H fun b3 M f H => ?_
        simp (disch:=omega) only [go_sem,undef,H.cs]
        refine callQ H (core_open_s (H.at 1 rfl) i) fun M f H => ?_
        simp (disch:=omega) only [go_sem,undef,H.cs,dec_t h1,Bool.not_true,co_cell (H.at 1 rfl),Ly.c,hv,dec_t (show ((Y.lds.length:Nat):Int) ≥ 256 by omega)]
        refine callQ H (find_s (H.at 1 rfl) ho i (by omega)) fun M f H => ?_
        rw [hf]
        simp (disch:=omega) only [go_sem,undef,H.cs,hpt,Option.isNone_none]
        exact cx_fin co_fw ho H.tail
    · have hp:C.recover i = C.rec2 i { C.at i with pr:=((C.bas i).1 + 1,(C.me:Nat)) }:=if_neg (fun h => h.elim (fun h => h h1) fun h => h3 h.1)
      rw [hp]
      simp (disch:=omega) only [go_sem,undef]
      refine newQ H fun b3 M f H => ?_
      simp (disch:=omega) only [go_sem,undef,H.cs]
      refine callQ H (core_open_s (H.at 1 rfl) i) fun M f H => ?_
      simp (disch:=omega) only [go_sem,undef,H.cs,dec_t h1,Bool.not_true,co_cell (H.at 1 rfl),Ly.c,hv,dec_f (show ¬ ((Y.lds.length:Nat):Int) ≥ 256 by omega)]
      exact hend _ rfl _ rfl rfl rfl _ H
  · have hp:C.recover i = (C,false):=if_pos (.inl h1)
    rw [hp]
    simp (disch:=omega) only [go_sem,undef]
    refine newQ H fun b3 M f H => ?_
    simp (disch:=omega) only [go_sem,undef,H.cs]
    refine callQ H (core_open_s (H.at 1 rfl) i) fun M f H => ?_
    simp (disch:=omega) only [go_sem,undef,H.cs,dec_f h1,Bool.not_false]
    exact cx_fin co_fw ho H.tail
end Go.Fw
namespace Go.Fw
open Go.Proofs
/-! what holds of every core -/
def sumD (d:Dp):Int:=d 0 + d 1 + d 2 + d 3 + d 4 + d 5 + d 6
theorem sumD_up (d:Dp) (k:Nat) (x:Int) (h:k < 7):sumD (Dp.up d k x) = sumD d - d.g k + x:=by
  match k,h with
  | 0,_ =>
    show (if (0:Nat) = 0 then x else d 0) + (if (1:Nat) = 0 then x else d 1) + (if (2:Nat) = 0 then x else d 2) + (if (3:Nat) = 0 then x else d 3) + (if (4:Nat) = 0 then x else d 4) + (if (5:Nat) = 0 then x else d 5) + (if (6:Nat) = 0 then x else d 6) = d 0 + d 1 + d 2 + d 3 + d 4 + d 5 + d 6 - d 0 + x
    simp only [reduceCtorEq,Nat.reduceEqDiff,if_true,if_false,ite_true,ite_false]
    omega
  | 1,_ =>
    show (if (0:Nat) = 1 then x else d 0) + (if (1:Nat) = 1 then x else d 1) + (if (2:Nat) = 1 then x else d 2) + (if (3:Nat) = 1 then x else d 3) + (if (4:Nat) = 1 then x else d 4) + (if (5:Nat) = 1 then x else d 5) + (if (6:Nat) = 1 then x else d 6) = d 0 + d 1 + d 2 + d 3 + d 4 + d 5 + d 6 - d 1 + x
    simp only [reduceCtorEq,Nat.reduceEqDiff,if_true,if_false,ite_true,ite_false]
    omega
  | 2,_ =>
    show (if (0:Nat) = 2 then x else d 0) + (if (1:Nat) = 2 then x else d 1) + (if (2:Nat) = 2 then x else d 2) + (if (3:Nat) = 2 then x else d 3) + (if (4:Nat) = 2 then x else d 4) + (if (5:Nat) = 2 then x else d 5) + (if (6:Nat) = 2 then x else d 6) = d 0 + d 1 + d 2 + d 3 + d 4 + d 5 + d 6 - d 2 + x
    simp only [reduceCtorEq,Nat.reduceEqDiff,if_true,if_false,ite_true,ite_false]
    omega
  | 3,_ =>
    show (if (0:Nat) = 3 then x else d 0) + (if (1:Nat) = 3 then x else d 1) + (if (2:Nat) = 3 then x else d 2) + (if (3:Nat) = 3 then x else d 3) + (if (4:Nat) = 3 then x else d 4) + (if (5:Nat) = 3 then x else d 5) + (if (6:Nat) = 3 then x else d 6) = d 0 + d 1 + d 2 + d 3 + d 4 + d 5 + d 6 - d 3 + x
    simp only [reduceCtorEq,Nat.reduceEqDiff,if_true,if_false,ite_true,ite_false]
    omega
  | 4,_ =>
    show (if (0:Nat) = 4 then x else d 0) + (if (1:Nat) = 4 then x else d 1) + (if (2:Nat) = 4 then x else d 2) + (if (3:Nat) = 4 then x else d 3) + (if (4:Nat) = 4 then x else d 4) + (if (5:Nat) = 4 then x else d 5) + (if (6:Nat) = 4 then x else d 6) = d 0 + d 1 + d 2 + d 3 + d 4 + d 5 + d 6 - d 4 + x
    simp only [reduceCtorEq,Nat.reduceEqDiff,if_true,if_false,ite_true,ite_false]
    omega
  | 5,_ =>
    show (if (0:Nat) = 5 then x else d 0) + (if (1:Nat) = 5 then x else d 1) + (if (2:Nat) = 5 then x else d 2) + (if (3:Nat) = 5 then x else d 3) + (if (4:Nat) = 5 then x else d 4) + (if (5:Nat) = 5 then x else d 5) + (if (6:Nat) = 5 then x else d 6) = d 0 + d 1 + d 2 + d 3 + d 4 + d 5 + d 6 - d 5 + x
    simp only [reduceCtorEq,Nat.reduceEqDiff,if_true,if_false,ite_true,ite_false]
    omega
  | 6,_ =>
    show (if (0:Nat) = 6 then x else d 0) + (if (1:Nat) = 6 then x else d 1) + (if (2:Nat) = 6 then x else d 2) + (if (3:Nat) = 6 then x else d 3) + (if (4:Nat) = 6 then x else d 4) + (if (5:Nat) = 6 then x else d 5) + (if (6:Nat) = 6 then x else d 6) = d 0 + d 1 + d 2 + d 3 + d 4 + d 5 + d 6 - d 6 + x
    simp only [reduceCtorEq,Nat.reduceEqDiff,if_true,if_false,ite_true,ite_false]
    omega
structure LdGood (l:Ld):Prop where
  ans:∀ i,l.ans i = 0 ∨ l.ans i = 1
  cnt:l.count = sumD l.ans
  reps:(l.reps.length:Int) ≤ l.count
  said:(l.said.length:Int) ≤ l.count + 1
  keys:∀ s ∈ l.said,s.cel.cmd.right
theorem LdGood.ok {l:Ld} (h:LdGood l):LdOk l:=by
  have h0:=h.ans 0
  have h1:=h.ans 1
  have h2:=h.ans 2
  have h3:=h.ans 3
  have h4:=h.ans 4
  have h5:=h.ans 5
  have h6:=h.ans 6
  have hc:=h.cnt
  have hr:=h.reps
  have hs:=h.said
  unfold sumD at hc
  exact ⟨by omega,by omega,by omega,fun s hs => cmd_key (h.keys s hs)⟩
theorem newLd_good (i:Int × Int) (w:Int) (b:Int × Int) (f:Bool) (x:Cmd) (a:Att):LdGood (newLd i w b f x a) :=
  ⟨fun i => .inl rfl,rfl,by simp [newLd],by simp [newLd],by simp [newLd]⟩
theorem recLd_good (i:Int × Int) (me:Nat) (x:Cel) (h:x.cmd.right):LdGood (recLd i me x) :=
  ⟨fun i => .inl rfl,rfl,by simp [recLd,newLd],by simp [recLd,newLd],by simpa [recLd] using h⟩
theorem heard_good {l:Ld} (h:LdGood l) {k:Nat} (hk:k < 7) (h0:l.ans.g k = 0):LdGood (l.heard k) ∧ (l.heard k).reps.length + 1 ≤ (l.heard k).count ∧ (l.heard k).said.length ≤ (l.heard k).count:=by
  have hs:=sumD_up l.ans k 1 hk
  have hr:=h.reps
  have hsd:=h.said
  have hc:=h.cnt
  refine ⟨⟨fun i => ?_, ?_, ?_, ?_,h.keys⟩, ?_, ?_⟩
  · show Dp.up l.ans k 1 i = 0 ∨ Dp.up l.ans k 1 i = 1
    unfold Dp.up
    by_cases hi:i.val = k
    · rw [if_pos hi]; exact .inr rfl
    · rw [if_neg hi]; exact h.ans i
  · show l.count + 1 = sumD (Dp.up l.ans k 1)
    omega
  · show (l.reps.length:Int) ≤ l.count + 1
    omega
  · show (l.said.length:Int) ≤ l.count + 1 + 1
    omega
  · show (l.reps.length:Int) + 1 ≤ l.count + 1
    omega
  · show (l.said.length:Int) ≤ l.count + 1
    omega
structure Co.Ok (C:Co):Prop where
  n:C.n = 3 ∨ C.n = 5 ∨ C.n = 7
  me:C.me < C.n
  xl:IdxOk C.xl
  lg:∀ p ∈ C.lg,rightI p.1 ∧ p.2.right
  wishes:C.wishes.length ≤ 256
  lds:∀ l ∈ C.leads,LdGood l
/-- how much a step may add -/
structure Sz (C C':Co) (r o l:Nat):Prop where
  recs:C'.recs.length ≤ C.recs.length + r
  out:C'.out.length ≤ C.out.length + o
  leads:C'.leads.length ≤ C.leads.length + l
  n:C'.n = C.n
  me:C'.me = C.me
  cut:C'.cut = C.cut
  xcut:C'.xcut = C.xcut
theorem Sz.refl (C:Co):Sz C C 0 0 0:=⟨by omega,by omega,by omega,rfl,rfl,rfl,rfl⟩
theorem Sz.trans {A B C:Co} {a b c a' b' c':Nat} (h:Sz A B a b c) (h':Sz B C a' b' c'):Sz A C (a + a') (b + b') (c + c') :=
  ⟨by have:=h.recs; have:=h'.recs; omega,by have:=h.out; have:=h'.out; omega,by have:=h.leads; have:=h'.leads; omega,h'.n.trans h.n,h'.me.trans h.me,h'.cut.trans h.cut,h'.xcut.trans h.xcut⟩
theorem Sz.up {A B:Co} {a b c a' b' c':Nat} (h:Sz A B a b c) (h1:a ≤ a') (h2:b ≤ b') (h3:c ≤ c'):Sz A B a' b' c' :=
  ⟨by have:=h.recs; omega,by have:=h.out; omega,by have:=h.leads; omega,h.n,h.me,h.cut,h.xcut⟩
/-- a step: what holds stays, and little is added -/
structure Sts (C C':Co) (r o l:Nat):Prop where
  ok:C.Ok → C'.Ok
  sz:Sz C C' r o l
theorem Sts.refl (C:Co):Sts C C 0 0 0:=⟨id,Sz.refl C⟩
theorem Sts.trans {A B C:Co} {a b c a' b' c':Nat} (h:Sts A B a b c) (h':Sts B C a' b' c'):Sts A C (a + a') (b + b') (c + c'):=⟨fun k => h'.ok (h.ok k),h.sz.trans h'.sz⟩
theorem Sts.up {A B:Co} {a b c a' b' c':Nat} (h:Sts A B a b c) (h1:a ≤ a') (h2:b ≤ b') (h3:c ≤ c'):Sts A B a' b' c':=⟨h.ok,h.sz.up h1 h2 h3⟩
theorem upN_ok {l:IdxL} (h:IdxOk l) {cut:Dp} {k:Int × Int} {c:Cmd} {s:Int} (hm:mayN cut k c s):IdxOk (upN k ⟨c,s⟩ l):=by
  refine ⟨fun p hp => ?_⟩
  unfold upN at hp
  split at hp
  · obtain ⟨q,hq,e⟩:=List.mem_map.1 hp
    split at e
    · subst e; exact ⟨hm.1,hm.2.2.1,hm.2.2.2.1,hm.2.2.2.2⟩
    · subst e; exact h.ok q hq
  · rcases List.mem_append.1 hp with hp | hp
    · exact h.ok p hp
    · rw [List.mem_singleton] at hp; subst hp; exact ⟨hm.1,hm.2.2.1,hm.2.2.2.1,hm.2.2.2.2⟩
theorem note_st (C:Co) (i:Int × Int) (x:Cel):Sts C (C.note i x) 0 0 0:=by
  unfold Co.note
  split
  · refine ⟨fun h => ⟨h.n,h.me, ?_,h.lg,h.wishes,h.lds⟩,⟨by simp,by simp,by simp,rfl,rfl,rfl,rfl⟩⟩
    show IdxOk (if _ then _ else _)
    split
    · rename_i hm; exact upN_ok h.xl hm
    · exact h.xl
  · exact Sts.refl C
theorem upC_mem {k:Int × Int} {c:Cel} {l:LogL} {p:(Int × Int) × Cel} (h:p ∈ upC k c l):p = (k,c) ∨ p ∈ l:=by
  unfold upC at h
  split at h
  · obtain ⟨q,hq,e⟩:=List.mem_map.1 h
    split at e
    · exact .inl e.symm
    · subst e; exact .inr hq
  · rcases List.mem_append.1 h with h | h
    · exact .inr h
    · exact .inl (List.mem_singleton.1 h)
theorem set_st (C:Co) (i:Int × Int) (x:Cel):Sts C (C.set i x).1 1 0 0:=by
  unfold Co.set
  split
  · rename_i hm
    have h2:Sts C { C with lg:=upC i x C.lg,recs:=C.recs ++ [recB i x] } 1 0 0:=by
      refine ⟨fun h => ⟨h.n,h.me,h.xl,fun p hp => ?_,h.wishes,h.lds⟩,⟨by simp,by simp,by simp,rfl,rfl,rfl,rfl⟩⟩
      rcases upC_mem hp with e | e
      · subst e; exact ⟨hm.1,hm.2.2.1⟩
      · exact h.lg p e
    exact (h2.trans (note_st _ i x)).up (by omega) (by omega) (by omega)
  · exact (Sts.refl C).up (by omega) (by omega) (by omega)
theorem send_st (C:Co) (to:Int) (x:Lt):Sts C (C.send to x) 0 1 0:=⟨fun h => ⟨h.n,h.me,h.xl,h.lg,h.wishes,h.lds⟩,⟨by simp [Co.send],by simp [Co.send],by simp [Co.send],rfl,rfl,rfl,rfl⟩⟩
theorem allN_st (C:Co) (x:Lt) (ans:Dp):∀ j,Sts C (C.allN x ans j) 0 j 0
  | 0 => Sts.refl C
  | j + 1 => by
    unfold Co.allN
    split
    · exact ((allN_st C x ans j).trans (send_st _ j x)).up (by omega) (by omega) (by omega)
    · exact (allN_st C x ans j).up (by omega) (by omega) (by omega)
theorem all_st (C:Co) (x:Lt) (ans:Dp):Sts C (C.all x ans) 0 C.n 0:=allN_st C x ans C.n
theorem leave_st (C:Co) (i:Int × Int):Sts C (C.leave i) 0 0 0 :=
  ⟨fun h => ⟨h.n,h.me,h.xl,h.lg,h.wishes,fun l hl => h.lds l (List.mem_filter.1 hl).1⟩,⟨by simp [Co.leave],by simp [Co.leave],List.length_filter_le ..,rfl,rfl,rfl,rfl⟩⟩
theorem insF_mem {α:Type} {l:List α} {j:Nat} {x y:α} (h:y ∈ insF l j x):y = x ∨ y ∈ l:=List.mem_cons.1 ((insF_perm l j x).subset h)
theorem takeE_st (C:Co) (x:Ld) (hx:LdGood x):Sts C (C.takeE x) 0 0 1:=by
  have h2:Sts (C.leave x.id) (C.takeE x) 0 0 1:=by
    refine ⟨fun h => ⟨h.n,h.me,h.xl,h.lg,h.wishes,fun l hl => ?_⟩,⟨by simp [Co.takeE],by simp [Co.takeE], ?_,rfl,rfl,rfl,rfl⟩⟩
    · rcases insF_mem hl with e | e
      · subst e; exact hx
      · exact h.lds l e
    · show (insF _ _ _).length ≤ _
      rw [insF_len _ _ _ (posL_le ..)]; omega
  exact ((leave_st C x.id).trans h2).up (by omega) (by omega) (by omega)
theorem beginE_st (C:Co) (x:Ld) (hx:LdGood x):Sts C (C.beginE x) 0 C.n 1:=by
  have h:=all_st (C.takeE x) x.ask x.ans
  rw [show (C.takeE x).n = C.n from rfl] at h
  exact ((takeE_st C x hx).trans h).up (by omega) (by omega) (by omega)
theorem commit_st (C:Co) (i:Int × Int) (x:Cmd) (a:Att):Sts C (C.commit i x a) 1 C.n 0:=by
  unfold Co.commit Co.com2
  have h1:=(leave_st C i).trans (set_st (C.leave i) i ⟨3,((lkC i C.lg).getD Cel.zero).pr,((lkC i C.lg).getD Cel.zero).vo,x,a,false⟩)
  split
  · have h2:=all_st ((C.leave i).set i ⟨3,((lkC i C.lg).getD Cel.zero).pr,((lkC i C.lg).getD Cel.zero).vo,x,a,false⟩).1 { Lt.zero with kind:=5,inst:=i,cmd:=x,att:=a } Dp.zero
    have hn:=h1.sz.n
    exact (h1.trans h2).up (by omega) (by omega) (by omega)
  · exact h1.up (by omega) (by omega) (by omega)
theorem accept_st (C:Co) (l:Ld) (x:Cmd) (a:Att):Sts C (C.accept l x a) 1 C.n 1:=by
  unfold Co.accept
  have h1:=set_st C l.id ⟨2,l.bal,l.bal,x,a,false⟩
  split
  · split
    · have h2:=beginE_st (C.set l.id ⟨2,l.bal,l.bal,x,a,false⟩).1 (newLd l.id 1 l.bal false x a) (newLd_good ..)
      have hn:=h1.sz.n
      exact (h1.trans h2).up (by omega) (by omega) (by omega)
    · exact (h1.trans (leave_st _ l.id)).up (by omega) (by omega) (by omega)
  · exact (leave_st C l.id).up (by omega) (by omega) (by omega)
theorem again_st (C:Co) (l:Ld) (x:Cmd) (a:Att):Sts C (C.again l x a) 1 C.n 1:=by
  unfold Co.again Co.again2
  generalize joinA a (attrF C.xcut C.xl l.id x) = a
  have h1:=set_st C l.id ⟨1,l.bal,l.bal,x,a,false⟩
  split
  · split
    · have h2:=beginE_st (C.set l.id ⟨1,l.bal,l.bal,x,a,false⟩).1 (newLd l.id 0 l.bal false x a) (newLd_good ..)
      have hn:=h1.sz.n
      exact (h1.trans h2).up (by omega) (by omega) (by omega)
    · exact (h1.trans (leave_st _ l.id)).up (by omega) (by omega) (by omega)
  · exact (leave_st C l.id).up (by omega) (by omega) (by omega)
theorem weigh_st (C:Co) (l:Ld) (late:Bool):Sts C (C.weigh l late).1 1 C.n 1:=by
  unfold Co.weigh Co.weigh2
  split
  · exact (commit_st ..).up (by omega) (by omega) (by omega)
  split
  · exact accept_st ..
  · exact (Sts.refl C).up (by omega) (by omega) (by omega)
theorem prepared_st (C:Co) (l:Ld):Sts C (C.prepared l) 1 C.n 1:=by
  unfold Co.prepared Co.prep2
  split
  · exact (commit_st ..).up (by omega) (by omega) (by omega)
  split
  · exact accept_st ..
  split
  · exact accept_st ..
  split
  · exact again_st ..
  · exact (Sts.refl C).up (by omega) (by omega) (by omega)
theorem put_st (C:Co) (j:Nat) (l:Ld) (hl:C.Ok → LdGood l):Sts C (C.put j l) 0 0 0 :=
  ⟨fun h => ⟨h.n,h.me,h.xl,h.lg,h.wishes,fun y hy => by
    rcases List.mem_or_eq_of_mem_set hy with e | e
    · exact h.lds y e
    · subst e; exact hl h⟩,⟨by simp [Co.put],by simp [Co.put],by simp [Co.put],rfl,rfl,rfl,rfl⟩⟩
theorem ans2_st (C:Co) (j:Nat) (l:Ld) (x:Lt) (k:Nat) (hk:k < 7) (hl:C.leads[j]? = some l) (h0:l.ans.g k = 0) (hx:x.cel.cmd.right):Sts C (C.ans2 j l x k) 1 C.n 1:=by
  have hg:C.Ok → LdGood (l.heard k) ∧ (l.heard k).reps.length + 1 ≤ (l.heard k).count ∧ (l.heard k).said.length ≤ (l.heard k).count:=fun h => heard_good (h.lds l (List.mem_of_getElem? hl)) hk h0
  unfold Co.ans2
  split
  · have h1:=put_st C j ((l.heard k).repd x.att) fun h => ⟨(hg h).1.ans,(hg h).1.cnt,by have:=(hg h).2.1; simpa [Ld.repd] using this,(hg h).1.said,(hg h).1.keys⟩
    exact (h1.trans (weigh_st _ _ false)).up (by omega) (by simp [Co.put_n]) (by omega)
  split
  · have h1:=put_st C j (l.heard k) fun h => (hg h).1
    split
    · exact (h1.trans (commit_st ..)).up (by omega) (by simp [Co.put_n]) (by omega)
    · exact h1.up (by omega) (by omega) (by omega)
  · have h1:=put_st C j ((l.heard k).sayd ⟨k,x.cel⟩) fun h => ⟨(hg h).1.ans,(hg h).1.cnt,(hg h).1.reps,by have:=(hg h).2.2; simp [Ld.sayd]; exact this,fun s hs => by
      rcases List.mem_append.1 (show s ∈ (l.heard k).said ++ [Sd.mk k x.cel] from hs) with e | e
      · exact (hg h).1.keys s e
      · rw [List.mem_singleton] at e; subst e; exact hx⟩
    exact (h1.trans (prepared_st _ _)).up (by omega) (by simp [Co.put_n]) (by omega)
theorem answered_st (C:Co) (x:Lt) (hk:0 ≤ x.src ∧ x.src < 7) (hx:x.cel.cmd.right):Sts C (C.answered x) 1 C.n 1:=by
  have hr:Sts C C 1 C.n 1:=(Sts.refl C).up (by omega) (by omega) (by omega)
  unfold Co.answered
  cases fdL x.inst C.leads with
  | none => exact hr
  | some j =>
    cases hl:C.leads[j]? with
    | none => simpa only [Co.ans1,hl] using hr
    | some l =>
      simp only [Co.ans1,hl]
      split
      · exact hr
      · rename_i h0
        split
        · exact hr
        · refine ans2_st C j l x _ (by omega) hl (Classical.byContradiction fun h => h0 (.inr h)) hx
end Go.Fw
namespace Go.Fw
open Go.Proofs
theorem pre_st (C:Co) (x:Lt) (c:Cel) (own:Bool):Sts C (C.pre x c own) 1 1 0:=by
  have hr:Sts C C 1 1 0:=(Sts.refl C).up (by omega) (by omega) (by omega)
  unfold Co.pre
  split
  · split
    · exact (send_st ..).up (by omega) (by omega) (by omega)
    · exact hr
  · generalize joinA x.att (attrF C.xcut C.xl x.inst x.cmd) = a
    unfold Co.pre2
    have h1:=set_st C x.inst ⟨1,x.bal,x.bal,x.cmd,a,decide (x.bal = (0,0) ∧ a = x.att)⟩
    split
    · split
      · exact (h1.trans (send_st ..)).up (by omega) (by omega) (by omega)
      · exact h1.up (by omega) (by omega) (by omega)
    · exact hr
theorem acc2_st (C:Co) (x:Lt) (done:Bool):Sts C (C.acc2 x done) 1 1 0:=by
  unfold Co.acc2
  have h1:=set_st C x.inst ⟨2,x.bal,x.bal,x.cmd,x.att,false⟩
  split
  · exact (send_st ..).up (by omega) (by omega) (by omega)
  split
  · exact (h1.trans (send_st ..)).up (by omega) (by omega) (by omega)
  · exact h1.up (by omega) (by omega) (by omega)
theorem prp2_st (C:Co) (x:Lt) (c:Cel):Sts C (C.prp2 x c) 1 1 0:=by
  unfold Co.prp2
  have h1:=set_st C x.inst { c with pr:=x.bal }
  split
  · exact (send_st ..).up (by omega) (by omega) (by omega)
  split
  · exact (h1.trans (send_st ..)).up (by omega) (by omega) (by omega)
  · exact h1.up (by omega) (by omega) (by omega)
theorem ask3_st (C:Co) (x:Lt) (c:Cel) (own:Bool):Sts C (C.ask3 x c own) 1 1 0:=by
  unfold Co.ask3
  split
  · exact pre_st ..
  split
  · exact acc2_st ..
  split
  · exact prp2_st ..
  · exact (Sts.refl C).up (by omega) (by omega) (by omega)
theorem yields_st (C:Co) (i b:Int × Int):Sts C (C.yields i b) 0 0 0:=by
  unfold Co.yields
  repeat' split
  all_goals first
    | exact leave_st ..
    | exact Sts.refl C
theorem asked_st (C:Co) (x:Lt):Sts C (C.asked x) 1 1 0:=by
  unfold Co.asked Co.ask2
  split
  · exact (send_st ..).up (by omega) (by omega) (by omega)
  split
  · exact (send_st ..).up (by omega) (by omega) (by omega)
  · exact ((yields_st C x.inst x.bal).trans (ask3_st ..)).up (by omega) (by omega) (by omega)
theorem told_st (C:Co) (x:Lt):Sts C (C.told x) 1 0 0:=by
  unfold Co.told Co.told2
  split
  · exact (Sts.refl C).up (by omega) (by omega) (by omega)
  · exact ((leave_st C x.inst).trans (set_st ..)).up (by omega) (by omega) (by omega)
theorem want_st (C:Co) (b:Nat) (i:Int × Int):Sts C (C.want b i) 0 0 0:=by
  unfold Co.want
  split
  · rename_i hw
    refine ⟨fun h => ⟨h.n,h.me,h.xl,h.lg, ?_,h.lds⟩,⟨by simp,by simp,by simp,rfl,rfl,rfl,rfl⟩⟩
    show (insF C.wishes _ _).length ≤ _
    rw [insF_len _ _ _ (posW_le ..)]
    have:=hw.2.2
    omega
  · exact Sts.refl C
theorem putW_st (C:Co) (j:Nat) (x:Wsh):Sts C (C.putW j x) 0 0 0 :=
  ⟨fun h => ⟨h.n,h.me,h.xl,h.lg,by have:=h.wishes; simpa [Co.putW] using this,h.lds⟩,⟨by simp [Co.putW],by simp [Co.putW],by simp [Co.putW],rfl,rfl,rfl,rfl⟩⟩
theorem ref2_st (C:Co) (i b:Int × Int) (o:Option Nat):Sts C (C.ref2 i b o) 0 0 0:=by
  cases o with
  | none => exact Sts.refl C
  | some j =>
    cases h:C.wishes[j]? with
    | none => simp only [Co.ref2,h]; exact Sts.refl C
    | some x => simp only [Co.ref2,h]; exact putW_st ..
theorem refused_st (C:Co) (b:Nat) (x:Lt):Sts C (C.refused b x) 0 0 0:=by
  unfold Co.refused
  cases fdL x.inst C.leads with
  | none => exact Sts.refl C
  | some j =>
    cases h:C.leads[j]? with
    | none => simp only [Co.ref1,h]; exact Sts.refl C
    | some l =>
      simp only [Co.ref1,h]
      split
      · unfold Co.refd
        exact (((leave_st C x.inst).trans (want_st ..)).trans (ref2_st ..)).up (by omega) (by omega) (by omega)
      · exact Sts.refl C
theorem take_st (C:Co) (b:Nat) (x:Lt) (hn:1 ≤ C.n):Sts C (C.take b x).1 1 C.n 1:=by
  have hr:Sts C C 1 C.n 1:=(Sts.refl C).up (by omega) (by omega) (by omega)
  unfold Co.take
  split
  · exact hr
  rename_i hb
  have hx:x.right:=Classical.byContradiction fun h => hb (.inl h)
  split
  · exact hr
  show Sts C (C.take2 b x) 1 C.n 1
  unfold Co.take2
  split
  · exact (asked_st ..).up (by omega) (by omega) (by omega)
  split
  · exact (told_st ..).up (by omega) (by omega) (by omega)
  split
  · exact (refused_st ..).up (by omega) (by omega) (by omega)
  · exact answered_st C x hx.2.1 hx.2.2.2.2.2.2.2.2.2.1.2.2.2.2.2.2.2.1
theorem propose_st (C:Co) (x:Cmd):Sts C (C.propose x).1 1 C.n 1:=by
  have hr:Sts C C 1 C.n 1:=(Sts.refl C).up (by omega) (by omega) (by omega)
  unfold Co.propose
  split
  · exact hr
  · generalize attrF C.xcut C.xl C.next x = a
    unfold Co.prop2
    split
    · have h1:=set_st C C.next ⟨1,(0,0),(0,0),x,a,true⟩
      have h2:=beginE_st (C.set C.next ⟨1,(0,0),(0,0),x,a,true⟩).1 (newLd C.next 0 (0,0) true x a) (newLd_good ..)
      have hn:=h1.sz.n
      exact (h1.trans h2).up (by omega) (by omega) (by omega)
    · exact hr
theorem at_right {C:Co} (h:C.Ok) (i:Int × Int):(C.at i).cmd.right:=by
  unfold Co.at
  cases e:lkC i C.lg with
  | none => exact .inl rfl
  | some c => exact (h.lg _ (lkC_mem e)).2.2.2.2.2.2.2.2.1
theorem recover_st (C:Co) (i:Int × Int):Sts C (C.recover i).1 1 C.n 1:=by
  have hr:Sts C C 1 C.n 1:=(Sts.refl C).up (by omega) (by omega) (by omega)
  unfold Co.recover
  split
  · exact hr
  · unfold Co.rec2
    have h1:=set_st C i { C.at i with pr:=((C.bas i).1 + 1,(C.me:Nat)) }
    split
    · split
      · refine ⟨fun h => ?_, ?_⟩
        · have h2:=beginE_st (C.set i { C.at i with pr:=((C.bas i).1 + 1,(C.me:Nat)) }).1 (recLd i C.me { C.at i with pr:=((C.bas i).1 + 1,(C.me:Nat)) }) (recLd_good _ _ _ (at_right h i))
          exact h2.ok (h1.ok h)
        · have h2:Sz (C.set i { C.at i with pr:=((C.bas i).1 + 1,(C.me:Nat)) }).1 ((C.set i { C.at i with pr:=((C.bas i).1 + 1,(C.me:Nat)) }).1.beginE (recLd i C.me { C.at i with pr:=((C.bas i).1 + 1,(C.me:Nat)) })) 0 C.n 1:=by
            have hn:=h1.sz.n
            generalize (C.set i { C.at i with pr:=((C.bas i).1 + 1,(C.me:Nat)) }).1 = C1 at *
            generalize recLd i C.me { C.at i with pr:=((C.bas i).1 + 1,(C.me:Nat)) } = l
            have h3:=(all_st (C1.takeE l) l.ask l.ans).sz
            rw [show (C1.takeE l).n = C.n from hn] at h3
            have h4:Sz C1 (C1.takeE l) 0 0 1:=⟨by simp [Co.takeE,Co.leave],by simp [Co.takeE,Co.leave],by
              show (insF _ _ _).length ≤ _
              rw [insF_len _ _ _ (posL_le ..)]
              have:=List.length_filter_le (fun x => !decide (x.id = l.id)) C1.leads
              show (C1.leads.filter _).length + 1 ≤ _
              omega,rfl,rfl,rfl,rfl⟩
            exact (h4.trans h3).up (by omega) (by omega) (by omega)
          exact (h1.sz.trans h2).up (by omega) (by omega) (by omega)
      · exact h1.up (by omega) (by omega) (by omega)
    · exact hr
theorem drained_ok {C:Co} (h:C.Ok):C.drained.Ok:=⟨h.n,h.me,h.xl,h.lg,h.wishes,h.lds⟩
theorem new_ok (n me:Nat) (cut:Dp) (hn:n = 3 ∨ n = 5 ∨ n = 7) (hme:me < n):(Co.new n me cut).Ok:=⟨hn,hme,⟨by simp [Co.new]⟩,by simp [Co.new],by simp [Co.new],by simp [Co.new]⟩
theorem Co.Ok.fit {C:Co} (h:C.Ok) (hr:C.recs.length ≤ 100000) (ho:C.out.length ≤ 900000) (hl:C.leads.length ≤ 100000):C.Fit :=
  ⟨h.xl,by omega,hl,by have:=h.wishes; omega,by omega,by have:=h.n; omega,by have:=h.n; omega,fun l hl => (h.lds l hl).ok⟩
end Go.Fw
