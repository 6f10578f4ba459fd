import Derived.Test.YtbbiiodadoeflabGreatDoorWh
import Derived.Test.YtbbiiodadoeflabGreatDoorWf
set_option linter.unusedVariables false
set_option linter.unusedSimpArgs false
set_option linter.unusedSimpArgs false
set_option linter.unusedVariables false
namespace Go.Fw
open Go.Proofs
variable {m m0 M : Mem} {S : List Nat} {L : List As}
variable {rb wb : Nat} {fv : Value} {rs : List Row} {D : Dk}
/-! WalCuts: the parts -/
set_option maxHeartbeats 4000000 in
theorem arm_s (h : (dkA rb fv rs D).p m) (k : Nat) : CM Tryz.prog n_disk_Disk_Arm [lpD rb, .int .i64 (k : Nat)] m (dkA rb fv rs D) (DkR rb ⟨D.quota, D.fl, D.off, true, k⟩ (.tuple #[])) := by
  have H := Hq.one h
  have hb := dk_cell h
  have hmx : (if ((k : Nat) : Int) < 0 then (0 : Int) else (k : Nat)) = (k : Nat) := if_neg (by omega)
  refine disk_Disk_Arm_go (by simp [Tryz.f33]) ?_
  simp (disch := omega) only [go_sem, undef, hb, dkC, dec_t (show ((k : Nat) : Int) ≥ 0 by omega)]
  refine wrQ0 H.dk fun M f H => ?_
  have H := Hq.kd (l := dkC fv { D with armed := true }) (D := D) { D with armed := true } H rfl rfl
  have hb := dk_cell (H.at 0 rfl)
  simp (disch := omega) only [go_sem, undef, hb, dkC]
  refine wrQ0 H.dk fun M f H => ?_
  rw [show max ((k : Nat) : Int) 0 = (k : Nat) from by omega] at H
  have H := Hq.kd (l := dkC fv ⟨D.quota, D.fl, D.off, true, k⟩) (D := { D with armed := true }) ⟨D.quota, D.fl, D.off, true, k⟩ H rfl rfl
  simp (disch := omega) only [go_sem, undef]
  exact cm_done H
/-- what the law keeps of the files -/
structure Good (P : List Fl → Prop) : Prop where
  kb : ∀ F, P F → ∀ x ∈ F, x.kept = x.b.length
  pl : ∀ F, P F → ∀ x ∈ F, PlOk x.name
  n99 : ∀ F, P F → ∀ g, g < 100 → lookF (nmB g 99) F = none
  len : ∀ F, P F → F.length ≤ 1000
  tt : ∀ F, P F → tot F ≤ 5000000
  kp : ∀ F, P F → ∀ x ∈ F, x.kept ≤ 1000000000
  op : ∀ D : Dk, P D.fl → D.off = false → P (opF D).2.1.fl ∧ (opF D).2.1.left ≤ D.left
theorem open_any {P : List Fl → Prop} (hG : Good P) (h : (dkA rb fv rs D).p m) (hP : P D.fl) (hl : D.left ≤ 1000000000000) :
    CM Tryz.prog n_wal_Open [lpD rb] m (dkA rb fv rs D) fun u A => (∃ fv rs, A = dkA rb fv rs (opF D).2.1) ∨ ∃ wb w vs fv rs W l, A = starA (rbA w vs l) (wlA wb rb fv rs W (opF D).2.1) :=
  (open_s h (hG.pl _ hP) (hG.n99 _ hP) (by have := hG.len _ hP; omega) (hG.tt _ hP) hl (hG.kp _ hP)).mono fun u M ⟨A, hA, h2⟩ => ⟨A, by
    unfold OpR at hA
    split at hA
    · exact .inl hA.2
    · obtain ⟨wb, w, vs, fv, rs, _, e⟩ := hA
      exact .inr ⟨wb, w, vs, fv, rs, _, _, e⟩, h2⟩
theorem open_fin {P : List Fl → Prop} (hG : Good P) (h : (dkA rb fv rs D).p m) (hP : P D.fl) (hl : D.left ≤ 1000000000000) {W : Wl} {recs : List Bs} {D' : Dk} (e : opF D = ((some W, recs), D', 0)) :
    CM Tryz.prog n_wal_Open [lpD rb] m (dkA rb fv rs D) fun u A => ∃ wb w vs fv rs, u = .tuple #[lpD wb, w, .int .i64 0] ∧ A = starA (rbA w vs recs) (wlA wb rb fv rs W D') := by
  have := open_s h (hG.pl _ hP) (hG.n99 _ hP) (by have := hG.len _ hP; omega) (hG.tt _ hP) hl (hG.kp _ hP)
  rw [e] at this
  exact this
theorem Gen.good {fl : List Fl} {g : Nat} {segs : List Bs} (G : Gen fl g segs) (hT : tot fl ≤ 5000000) : ∀ x ∈ fl, x.kept ≤ 1000000000 := fun x hx => by have := G.kp x hx; omega
theorem good_add {g n : Nat} {was came : List Bs} {lp : List (List Bs)} {lb : List Bs} (R : TornR n was came lp lb) (hg0 : 0 < g) (hg : g < 100) (hK : lp.length + 1 < 98) (e : Nat) :
    Good fun F => tot F ≤ 5000000 ∧ ∃ c, Gen F g (tornS lp lb came c) ∧ (e = 0 → (frs came).take c = frs came) where
  kb := fun F ⟨_, c, G, _⟩ => G.kb
  pl := fun F ⟨_, c, G, _⟩ => G.pl hg0 hg (by rw [tornS_len]; omega)
  n99 := fun F ⟨_, c, G, _⟩ => G.n99 hg (by rw [tornS_len]; omega)
  len := fun F ⟨_, c, G, _⟩ => by have := G.len; rw [tornS_len] at this; omega
  tt := fun F h => h.1
  kp := fun F ⟨h, c, G, _⟩ => G.good h
  op := fun D ⟨h, c, G, he⟩ ho => by
    obtain ⟨c', G', _, h3, h4, h5, _⟩ := opF_torn ho G R hg0 hg hK
    exact ⟨⟨by omega, c', G', fun e0 => h5 (he e0)⟩, h3⟩
theorem fin_add {g n : Nat} {was came : List Bs} {lp : List (List Bs)} {lb : List Bs} (R : TornR n was came lp lb) (hg0 : 0 < g) (hg : g < 100) (hK : lp.length + 1 < 98) (e : Nat) (D : Dk)
    (h : tot D.fl ≤ 5000000 ∧ ∃ c, Gen D.fl g (tornS lp lb came c) ∧ (e = 0 → (frs came).take c = frs came)) (ho : D.off = false) (ha : D.armed = false) : ∃ W recs D', opF D = ((some W, recs), D', 0) ∧ ∃ j, j ≤ came.length ∧ recs = was ++ came.take j ∧ (e = 0 → j = came.length) := by
  obtain ⟨_, c, G, he⟩ := h
  obtain ⟨c', G', _, h3, h4, h5, h6⟩ := opF_torn ho G R hg0 hg hK
  obtain ⟨j, hj, h7, _, h8⟩ := h6 ha
  exact ⟨_, _, _, h7, j, hj, rfl, fun e0 => h8 (he e0)⟩
theorem NewS.len {fl : List Fl} {g : Nat} {segs : List Bs} {T : Bs} (N : NewS fl g segs T) : fl.length ≤ segs.length + 1 := by
  have := len_sub (fl.map Fl.name) ((List.range segs.length).map (fun k => nmB g (k + 1)) ++ [nmB (g + 1) 1]) (srt_nodup N.srt) fun x hx => by
    obtain ⟨y, hy, rfl⟩ := List.mem_map.1 hx
    rcases N.only y hy with ⟨k, hk, e⟩ | e
    · exact List.mem_append_left _ (List.mem_map.2 ⟨k, List.mem_range.2 hk, e.symm⟩)
    · exact List.mem_append_right _ (by rw [e]; simp)
  simpa using this
theorem good_new {g n : Nat} {segs was came : List Bs} (R : SegR segs n was) (hg0 : 0 < g) (hg : g < 98) (hK : segs.length < 98) (hok : ∀ p ∈ came, okR p) (hn : came.length < 1000000000) (e : Nat) :
    Good fun F => tot F ≤ 5000000 ∧ NewS F g segs (hdR came) ∧ (e = 0 → NewF F g (hdR came)) where
  kb := fun F ⟨_, N, _⟩ => N.kb
  pl := fun F ⟨_, N, _⟩ x hx hnn => by
    rcases N.pls hg0 (by omega) hK x.name (List.mem_map_of_mem hx) with ⟨k, _, _, h⟩ | ⟨_, h⟩ <;> rw [h] at hnn <;> cases hnn
  n99 := fun F ⟨_, N, _⟩ g' hg' => N.noF (by omega) hK hg' (by omega) (by omega)
  len := fun F ⟨_, N, _⟩ => by have := N.len; omega
  tt := fun F h => h.1
  kp := fun F ⟨h, N, _⟩ x hx => by
    have h1 := N.kb x hx
    have h2 := lookF_tot (mem_look N.srt hx)
    omega
  op := fun D ⟨h, N, he⟩ ho => by
    obtain ⟨h1, _, h3, h4, h5, _⟩ := opF_new ho N R hg0 hg hK hok hn
    exact ⟨⟨by omega, h1, fun e0 => h5 (he e0)⟩, h3⟩
theorem fin_new {g n : Nat} {segs was came : List Bs} (R : SegR segs n was) (hg0 : 0 < g) (hg : g < 98) (hK : segs.length < 98) (hok : ∀ p ∈ came, okR p) (hn : came.length < 1000000000) (e : Nat) (D : Dk)
    (h : tot D.fl ≤ 5000000 ∧ NewS D.fl g segs (hdR came) ∧ (e = 0 → NewF D.fl g (hdR came))) (ho : D.off = false) (ha : D.armed = false) : ∃ W recs D', opF D = ((some W, recs), D', 0) ∧ (recs = was ∨ recs = came) ∧ (e = 0 → recs = came) := by
  obtain ⟨_, N, he⟩ := h
  obtain ⟨_, _, _, _, _, h6⟩ := opF_new ho N R hg0 hg hK hok hn
  obtain ⟨W, recs, h7, _, h8, h9⟩ := h6 ha
  exact ⟨_, _, _, h7, h9, fun e0 => h8 (he e0)⟩
end Go.Fw

set_option linter.unusedSimpArgs false
set_option linter.unusedVariables false
namespace Go.Fw
open Go.Proofs
variable {m m0 M : Mem} {S : List Nat} {L : List As}
variable {rb wb : Nat} {fv : Value} {rs : List Row} {D : Dk}
/-! WalCuts: from the cuts to the end -/
abbrev cutR : NC := (.seq law10_WalCuts_r27 (.seq law10_WalCuts_r28 (.seq (.seq law10_WalCuts_r29 (.cond (.slot 133) (.seq law10_WalCuts_r30 .ret) .skip)) (.seq (.seq law10_WalCuts_r31 (.cond (.slot 134) (.seq law10_WalCuts_r32 .ret) .skip))
  (.seq law10_WalCuts_r33 (.seq (.seq law10_WalCuts_r34 (.cond (.slot 172) (.seq law10_WalCuts_r35 .ret) .skip)) (.seq law10_WalCuts_r36 .ret)))))))
abbrev cutTl : NC := .seq (.seq law10_WalCuts_r21 (.block 2 (.loop [2, 4, 5, 13, 18, 21, 22, 23] law10_WalCuts_l1))) cutR
def FinOk (an : Bool) (e : Nat) (was came recs : List Bs) : Prop :=
  if an then (recs = was ∨ recs = came) ∧ (e = 0 → recs = came) else ∃ j, j ≤ came.length ∧ recs = was ++ came.take j ∧ (e = 0 → j = came.length)
theorem F2_take {α β : Type} {R : α → β → Prop} {l : List α} {r : List β} (h : F2 R l r) : ∀ n, F2 R (l.take n) (r.take n) := by
  induction h with
  | nil => intro n; simp; exact .nil
  | cons h1 _ ih => intro n; cases n with
    | zero => simp; exact .nil
    | succ n => simpa using .cons h1 (ih n)
theorem F2_drop {α β : Type} {R : α → β → Prop} {l : List α} {r : List β} (h : F2 R l r) : ∀ n, F2 R (l.drop n) (r.drop n) := by
  induction h with
  | nil => intro n; simp; exact .nil
  | cons h1 h2 ih => intro n; cases n with
    | zero => simpa using .cons h1 h2
    | succ n => simpa using ih n
set_option maxHeartbeats 16000000 in
theorem cut_end {P : List Fl → Prop} (hG : Good P) {an : Bool} {e : Nat} {was came : List Bs}
    (hfin : ∀ D : Dk, P D.fl → D.off = false → D.armed = false → ∃ W recs D', opF D = ((some W, recs), D', 0) ∧ FinOk an e was came recs)
    (hwl : was.length ≤ 1000) (hcl : came.length ≤ 1000) (hwo : ∀ p ∈ was, p.length ≤ 1000000000) (hco : ∀ p ∈ came, p.length ≤ 1000000000)
    {pv w wc : Value} {ps : List Int} {E : Env} {us ms : List Value} (H : Hq m0 m [] [dkA rb fv rs D, wnA wc ms, wnA w us]) (hM : F2 (fun v l => RdB m0 v l) ms came) (hU : F2 (fun v l => RdB m0 v l) us was)
    (hP : P (crL ps D.fl)) (hcr : CM Tryz.prog n_disk_Disk_Crash [lpD rb, pv] m (dkA rb fv rs D) (DkR rb (crF ps D) (.tuple #[])))
    (e2 : E.get 2 = .bool an) (e5 : E.get 5 = pv) (e13 : E.get 13 = lpD rb) (e18 : E.get 18 = w) (e21 : E.get 21 = wc) (e22 : E.get 22 = .int .i64 (e : Nat))
    (h2 : E.has 2 = true) (h5 : E.has 5 = true) (h13 : E.has 13 = true) (h18 : E.has 18 = true) (h21 : E.has 21 = true) (h22 : E.has 22 = true) :
    wpN Tryz.prog cutR (retP [RV.slot 12] fun u M => u = .bool true ∧ Fr m0 M []) E m := by
  have hn1 : ∀ b : Nat, (some (⟨b, 0, none⟩ : Addr)).isNone = false := fun _ => rfl
  have nc0 : ((0 : Nat) : Int) = 0 := rfl
  obtain ⟨W, recs, D', eo, hF⟩ := hfin (crF ps D) hP rfl rfl
  have hrl : recs.length ≤ 2000 ∧ ∀ p ∈ recs, p.length ≤ 1000000000 := by
    unfold FinOk at hF
    split at hF
    · rcases hF.1 with rfl | rfl
      · exact ⟨by omega, hwo⟩
      · exact ⟨by omega, hco⟩
    · obtain ⟨j, hj, rfl, _⟩ := hF
      refine ⟨by rw [List.length_append, List.length_take]; omega, fun p hp => ?_⟩
      rcases List.mem_append.1 hp with h | h
      · exact hwo p h
      · exact hco p (List.mem_of_mem_take h)
  have hul := F2_len hU
  have hml := F2_len hM
  simp (disch := omega) only [go_sem, undef, e2, e5, e13, e18, e21, e22, h2, h5, h13, h18, h21, h22]
  refine callA0 H hcr fun u M A' hR f H => ?_
  refine Exists.elim hR.2 fun fv1 hh => Exists.elim hh fun rs1 eA => ?_
  have eu := hR.1
  subst eu eA
  clear hh hR
  simp (disch := omega) only [go_sem, undef, e2, e13, e18, e21, e22]
  have hle : (crF ps D).left ≤ 1000000000000 := by show 0 ≤ _; omega
  have hP' : P (crF ps D).fl := hP
  have hop := open_fin hG (H.at 0 rfl) hP' hle eo
  refine callA0 H hop fun u M A' hR f H => ?_
  refine Exists.elim hR fun wb2 hh => Exists.elim hh fun w2 hh => Exists.elim hh fun vs2 hh => Exists.elim hh fun fv2 hh => Exists.elim hh fun rs2 hh => ?_
  obtain ⟨eu, eA⟩ := hh
  subst eu eA
  clear hR hcr eo
  have H := H.split
  have H : Hq m0 M [] [rbA w2 vs2 recs, wlA wb2 rb fv2 rs2 W D', wnA wc ms, wnA w us] := H
  refine Own.formK (H.at 2 rfl) fun ca cc eu => ?_
  subst eu
  refine Own.formK (H.at 3 rfl) fun wa wcp eu => ?_
  subst eu
  have hrb := H.at 0 rfl
  have hvl2 := F2_len hrb.2
  have hrf : F2 (fun v l => RdB M v l) vs2 recs := F2_imp hrb.2 fun _ _ _ h => h.1
  have hrd : RdS 1 v1 M w2 vs2 := hrb.1.1
  refine Exists.elim hrd.form fun ra hh => Exists.elim hh fun rc eu => ?_
  subst eu
  clear hh
  have hwn := Own.rds (k := 1) (enc := v1) (by decide) v1_len (H.at 3 rfl)
  have hwc := Own.rds (k := 1) (enc := v1) (by decide) v1_len (H.at 2 rfl)
  have hU2 : F2 (fun v l => RdB M v l) us was := F2_imp hU fun _ _ _ h => h.frame H.fr
  have hM2 : F2 (fun v l => RdB M v l) ms came := F2_imp hM fun _ _ _ h => h.frame H.fr
  have l1 := lists_s hrd hrf hwn hU2 hrl.2 hwo (by omega) (by omega)
  have l2 := lists_s hrd hrf hwc hM2 hrl.2 hco (by omega) (by omega)
  cases an with
  | true =>
    obtain ⟨hF1, hF2⟩ := hF
    simp (disch := omega) only [go_sem, undef, hn1]
    refine callQ H l1 fun M f H => ?_
    have l2 := fun (h : Fr _ M []) => lists_s (hrd.frame h) (F2_imp hrf fun _ _ _ g => g.frame h) (hwc.frame h) (F2_imp hM2 fun _ _ _ g => g.frame h) hrl.2 hco (by omega) (by omega)
    by_cases h1 : recs = was
    · by_cases h0 : e = 0
      · have h3 := hF2 h0
        simp (disch := omega) only [go_sem, undef, decide_eq_true h1, dec_f (show ¬ ((e : Nat) : Int) ≠ 0 by omega)]
        refine callQ H (l2 f) fun M f H => ?_
        simp (disch := omega) only [go_sem, undef, decide_eq_true h3]
        refine callQ H walRuns_s fun M f3 H => ?_
        simp (disch := omega) only [go_sem, undef]
        exact ⟨rfl, H.fr⟩
      · simp (disch := omega) only [go_sem, undef, decide_eq_true h1, dec_t (show ((e : Nat) : Int) ≠ 0 by omega)]
        refine callQ H walRuns_s fun M f3 H => ?_
        simp (disch := omega) only [go_sem, undef]
        exact ⟨rfl, H.fr⟩
    · have h3 := hF1.resolve_left h1
      simp (disch := omega) only [go_sem, undef, decide_eq_false h1]
      refine callQ H (l2 f) fun M f H => ?_
      simp (disch := omega) only [go_sem, undef, decide_eq_true h3]
      refine callQ H walRuns_s fun M f3 H => ?_
      simp (disch := omega) only [go_sem, undef]
      exact ⟨rfl, H.fr⟩
  | false =>
    obtain ⟨j, hj, hre, hj0⟩ := hF
    have hvl : vs2.length = us.length + j := by rw [hvl2, hre, List.length_append, List.length_take, hul]; omega
    have hjm : j ≤ ms.length := by omega
    have hsub : ((vs2.length : Nat) : Int) - ((us.length : Nat) : Int) = ((j : Nat) : Int) := by omega
    have hrt : recs.take us.length = was := by rw [hre, hul, List.take_left]
    have hrdp : recs.drop us.length = came.take j := by rw [hre, hul, List.drop_left]
    refine Exists.elim (hrd.cut (by decide) 0 us.length (by omega) (by omega)) fun a1 hh => Exists.elim hh fun c1 hh => ?_
    obtain ⟨hc1, hr1, _⟩ := hh
    refine Exists.elim (hrd.cut (by decide) us.length vs2.length (by omega) (Nat.le_refl _)) fun a2 hh => Exists.elim hh fun c2 hh => ?_
    obtain ⟨hc2, hr2, _⟩ := hh
    refine Exists.elim (hwc.cut (by decide) 0 j (by omega) hjm) fun a3 hh => Exists.elim hh fun c3 hh => ?_
    obtain ⟨hc3, hr3, _⟩ := hh
    rw [Nat.sub_zero] at hc1 hr1 hc3 hr3
    rw [nc0] at hc1 hc3
    rw [List.drop_zero] at hr1 hr3
    rw [List.take_length] at hr2
    have q1 := F2_take hrf us.length
    have q2 := F2_drop hrf us.length
    have q3 := F2_take hM2 j
    rw [hrt] at q1
    rw [hrdp] at q2
    have hct : ∀ p ∈ came.take j, p.length ≤ 1000000000 := fun p hp => hco p (List.mem_of_mem_take hp)
    have g1 := lists_s hr1 q1 hwn hU2 hwo hwo (by rw [List.length_take]; omega) (by omega)
    have g2 := fun (M' : Mem) (h : Fr M M' []) => lists_s (hr2.frame h) (F2_imp q2 fun _ _ _ g => g.frame h) (hr3.frame h) (F2_imp q3 fun _ _ _ g => g.frame h) hct hct (by rw [List.length_drop]; omega) (by rw [List.length_take]; omega)
    by_cases h0 : e = 0
    · have h3 : j = ms.length := by rw [hj0 h0, hml]
      simp (disch := omega) only [go_sem, undef, hn1, hsub, dec_f (show ¬ ((j : Nat) : Int) < 0 by omega), dec_f (show ¬ ((j : Nat) : Int) > (ms.length : Nat) by omega), dec_t (show ((e : Nat) : Int) = 0 by omega), dec_f (show ¬ ((j : Nat) : Int) ≠ (ms.length : Nat) by omega), rd_slc01, hc1]
      refine callQ H g1 fun M f H => ?_
      simp (disch := omega) only [go_sem, undef, decide_eq_true (rfl : was = was), rd_slc10, rd_slc01, hc2, hc3]
      refine callQ H (g2 M f) fun M f H => ?_
      simp (disch := omega) only [go_sem, undef, decide_eq_true (rfl : came.take j = came.take j)]
      refine callQ H walRuns_s fun M f3 H => ?_
      simp (disch := omega) only [go_sem, undef]
      exact ⟨rfl, H.fr⟩
    · simp (disch := omega) only [go_sem, undef, hn1, hsub, dec_f (show ¬ ((j : Nat) : Int) < 0 by omega), dec_f (show ¬ ((j : Nat) : Int) > (ms.length : Nat) by omega), dec_f (show ¬ ((e : Nat) : Int) = 0 by omega), rd_slc01, hc1]
      refine callQ H g1 fun M f H => ?_
      simp (disch := omega) only [go_sem, undef, decide_eq_true (rfl : was = was), rd_slc10, rd_slc01, hc2, hc3]
      refine callQ H (g2 M f) fun M f H => ?_
      simp (disch := omega) only [go_sem, undef, decide_eq_true (rfl : came.take j = came.take j)]
      refine callQ H walRuns_s fun M f3 H => ?_
      simp (disch := omega) only [go_sem, undef]
      exact ⟨rfl, H.fr⟩
set_option maxHeartbeats 16000000 in
theorem cut_tail {P : List Fl → Prop} (hG : Good P) {an : Bool} {e : Nat} {was came : List Bs}
    (hfin : ∀ D : Dk, P D.fl → D.off = false → D.armed = false → ∃ W recs D', opF D = ((some W, recs), D', 0) ∧ FinOk an e was came recs)
    (hwl : was.length ≤ 1000) (hcl : came.length ≤ 1000) (hwo : ∀ p ∈ was, p.length ≤ 1000000000) (hco : ∀ p ∈ came, p.length ≤ 1000000000)
    {zv pv w wc : Value} {zs ps : List Int} (hz : RdS 1 ic m0 zv zs) (hzr : ∀ x ∈ zs, R64i x) (hzl : zs.length ≤ 9223372036854775807) (hp : RdS 1 ic m0 pv ps) (hpr : ∀ x ∈ ps, R64i x) (hpl : ps.length ≤ 20)
    {us ms : List Value} (H : Hq m0 m [] [dkA rb fv rs D, wnA wc ms, wnA w us]) (hM : F2 (fun v l => RdB m0 v l) ms came) (hU : F2 (fun v l => RdB m0 v l) us was)
    (hP : P (crL ps D.fl)) (hk : ∀ f ∈ D.fl, f.kept ≤ f.b.length) (hT : tot D.fl ≤ 5000000) (hn : D.fl.length ≤ 100000) :
    wpN Tryz.prog cutTl (retP [RV.slot 12] fun u M => u = .bool true ∧ Fr m0 M []) [(2, .bool an), (4, zv), (5, pv), (13, lpD rb), (18, w), (21, wc), (22, .int .i64 (e : Nat))] m := by
  have hn1 : ∀ b : Nat, (some (⟨b, 0, none⟩ : Addr)).isNone = false := fun _ => rfl
  have nc0 : ((0 : Nat) : Int) = 0 := rfl
  obtain ⟨za, zc, rfl⟩ := hz.form
  have hcrash : ∀ {M : Mem} {fv : Value} {rs : List Row} {D : Dk} {L : List As} (H : Hq m0 M [] (dkA rb fv rs D :: L)), (∀ f ∈ D.fl, f.kept ≤ f.b.length) → tot D.fl ≤ 5000000 → D.fl.length ≤ 100000 → CM Tryz.prog n_disk_Disk_Crash [lpD rb, pv] M (dkA rb fv rs D) (DkR rb (crF ps D) (.tuple #[])) := by
    intro M fv rs D L H h1 h2 h3
    exact crash_s (H.at 0 rfl) ps (hp.frame H.fr) hpr (fun hne b hb => ⟨fun h => (H.nw _ (by simp) b h).elim (hp.there (by decide) hne b hb) (by simp), H.fr.some (hp.there (by decide) hne b hb) (by simp)⟩) (by omega) (by omega) (by omega) h1
  unfold cutTl
  generalize hC : cutR = C
  simp (disch := omega) only [go_sem, undef]
  refine loopQ_intro (fun k E m' => ∃ i fv rs D, i ≤ zs.length ∧ k = zs.length - i ∧ P (crL ps D.fl) ∧ (∀ f ∈ D.fl, f.kept ≤ f.b.length) ∧ tot D.fl ≤ 5000000 ∧ D.fl.length ≤ 100000 ∧
      E = [(2, .bool an), (4, .slice za zs.length zc), (5, pv), (13, lpD rb), (18, w), (21, wc), (22, .int .i64 (e : Nat)), (23, .int .i64 (i : Nat))] ∧ Hq m0 m' [] [dkA rb fv rs D, wnA wc ms, wnA w us]) zs.length rfl ⟨0, fv, rs, D, by omega, by omega, hP, hk, hT, hn, rfl, H⟩ ?_
  clear H hP hk hT hn
  rintro k E M1 ⟨i, fv, rs, D, hi1, rfl, hP, hk, hT, hn, rfl, H⟩
  have hcr := hcrash H hk hT hn
  have hgo : i < zs.length ∧ i < 4 ∨ ¬ (i < zs.length ∧ i < 4) := Classical.em _
  rcases hgo with ⟨h1, h2⟩ | hend
  · refine RdS.elK hz h1 (by decide) fun bx o x hx hix hE0 => ?_
    have hxr := hzr x (List.mem_of_getElem? hx)
    simp (disch := omega) only [go_sem, undef, dec_t (show ((i : Nat) : Int) < (zs.length : Nat) by omega), dec_t (show ((i : Nat) : Int) < 4 by omega)]
    refine callA0 H hcr fun u M A' hR f H => ?_
    refine Exists.elim hR.2 fun fv1 hh => Exists.elim hh fun rs1 eA => ?_
    have eu := hR.1
    subst eu eA
    clear hh hR
    have hE := hE0.frame H.fr
    have hc0 : cellAt (M bx) o = some (.int .i64 x) := hE.cell 0 _ rfl
    simp (disch := omega) only [go_sem, undef, hix, hc0]
    refine callR H (within_s x 0 4 (by decide) hxr (by decide) (by decide)) fun u M hR f H => ?_
    refine Exists.elim hR fun r hh => ?_
    obtain ⟨eu, hr1, hr2⟩ := hh
    subst eu
    refine Exists.elim (⟨r.toNat, by omega⟩ : ∃ q : Nat, r = (q : Nat)) fun q eq => ?_
    subst eq
    clear hR
    simp (disch := omega) only [go_sem, undef]
    refine callA0 H (arm_s (H.at 0 rfl) q) fun u M A' hR f H => ?_
    refine Exists.elim hR.2 fun fv1 hh => Exists.elim hh fun rs1 eA => ?_
    have eu := hR.1
    subst eu eA
    clear hh hR
    have H : Hq m0 M [] [dkA rb fv1 rs1 ⟨D.quota, crL ps D.fl, false, true, q⟩, wnA wc ms, wnA w us] := H
    have hop := hG.op ⟨D.quota, crL ps D.fl, false, true, q⟩ hP rfl
    have hopen := open_any hG (H.at 0 rfl) hP (by simp only; omega)
    revert hopen hop
    refine Exists.elim (⟨_, rfl⟩ : ∃ D2, D2 = (opF ⟨D.quota, crL ps D.fl, false, true, q⟩).2.1) fun D2 hD2 => ?_
    rw [← hD2]
    clear hD2
    intro hop hopen
    have hP2 := hop.1
    have hkb := hG.kb _ hP2
    have hl2 := hG.len _ hP2
    have hP3 : P (crL ps D2.fl) := by rw [crL_kept hkb]; exact hP2
    simp (disch := omega) only [go_sem, undef]
    refine callA0 H hopen fun u M A' hR f H => ?_
    rcases hR with hR | hR
    · refine Exists.elim hR fun fv2 hh => Exists.elim hh fun rs2 eA => ?_
      subst eA
      simp (disch := omega) only [go_sem, undef]
      exact handN_intro (zs.length - (i + 1)) (by omega) ⟨i + 1, fv2, rs2, D2, by omega, rfl, hP3, fun f hf => Nat.le_of_eq (hkb f hf), hG.tt _ hP2, by omega, rfl, H⟩
    · refine Exists.elim hR fun wb2 hh => Exists.elim hh fun w2 hh => Exists.elim hh fun vs2 hh => Exists.elim hh fun fv2 hh => Exists.elim hh fun rs2 hh => Exists.elim hh fun W2 hh => Exists.elim hh fun l2 eA => ?_
      subst eA
      have H := H.split.tail.split.tail
      simp (disch := omega) only [go_sem, undef]
      exact handN_intro (zs.length - (i + 1)) (by omega) ⟨i + 1, fv2, rs2, D2, by omega, rfl, hP3, fun f hf => Nat.le_of_eq (hkb f hf), hG.tt _ hP2, by omega, rfl, H⟩
  · by_cases h1 : i < zs.length
    · simp (disch := omega) only [go_sem, undef, dec_t (show ((i : Nat) : Int) < (zs.length : Nat) by omega), dec_f (show ¬ ((i : Nat) : Int) < 4 by omega)]
      subst hC
      refine cut_end hG hfin hwl hcl hwo hco H hM hU hP hcr ?_ ?_ ?_ ?_ ?_ ?_ ?_ ?_ ?_ ?_ ?_ ?_ <;> rfl
    · simp (disch := omega) only [go_sem, undef, dec_f (show ¬ ((i : Nat) : Int) < (zs.length : Nat) by omega)]
      subst hC
      refine cut_end hG hfin hwl hcl hwo hco H hM hU hP hcr ?_ ?_ ?_ ?_ ?_ ?_ ?_ ?_ ?_ ?_ ?_ ?_ <;> rfl
end Go.Fw

set_option linter.unusedSimpArgs false
set_option linter.unusedVariables false
namespace Go.Fw
open Go.Proofs
variable {m m0 M : Mem} {S : List Nat} {L : List As}
variable {rb wb : Nat} {fv : Value} {rs : List Row} {D : Dk}
/-! WalCuts: the write that is cut -/
structure CutP (an : Bool) (was came : List Bs) (ps : List Int) (D' : Dk) (e : Nat) (P : List Fl → Prop) : Prop where
  good : Good P
  fin : ∀ D : Dk, P D.fl → D.off = false → D.armed = false → ∃ W recs D', opF D = ((some W, recs), D', 0) ∧ FinOk an e was came recs
  now : P (crL ps D'.fl)
  kle : ∀ f ∈ D'.fl, f.kept ≤ f.b.length
  tt : tot D'.fl ≤ 5000000
  len : D'.fl.length ≤ 100000
theorem crL_len (ps : List Int) (l : List Fl) : (crL ps l).length = l.length := by simp [crL]
theorem cut_add {D : Dk} (ho : D.off = false) {g n : Nat} {segs was came : List Bs} (G : Gen D.fl g segs) (R : SegR segs n was) (hg0 : 0 < g) (hg : g < 98) (hK : segs.length < 90) (hok : ∀ p ∈ came, okR p) (hr : tot D.fl + (frs came).length ≤ D.quota) (hT : tot D.fl + (frs came).length ≤ 5000000) (ps : List Int) :
    ∃ P, CutP false was came ps (addF came ⟨g, segs.length, false⟩ D).2.1 (addF came ⟨g, segs.length, false⟩ D).2.2 P := by
  obtain ⟨A, hc⟩ := add_cut ho G R hg0 (by omega) (by omega) hok hr
  obtain ⟨lp, lb, c, T, hl, G2, he⟩ := hc ps
  have hlen := G2.len
  rw [crL_len, tornS_len] at hlen
  have h1 := crL_tot ps (addF came ⟨g, segs.length, false⟩ D).2.1.fl
  have h2 := A.tt
  exact ⟨_, good_add T hg0 (by omega) (by omega) _, fun D hP ho ha => fin_add T hg0 (by omega) (by omega) _ D hP ho ha, ⟨by omega, c, G2, he⟩, A.kle, by omega, by omega⟩
theorem cut_new {D : Dk} (ho : D.off = false) {g n : Nat} {segs was came : List Bs} (G : Gen D.fl g segs) (R : SegR segs n was) (hg0 : 0 < g) (hg : g < 98) (hK : segs.length < 90) (hok : ∀ p ∈ came, okR p) (hn : came.length < 1000000000) (hr : tot D.fl + (hdR came).length ≤ D.quota) (hT : tot D.fl + (hdR came).length ≤ 5000000) (ps : List Int) :
    ∃ P, CutP true was came ps (anewF came ⟨g, segs.length, false⟩ D).2.1 (anewF came ⟨g, segs.length, false⟩ D).2.2 P := by
  obtain ⟨A, hc⟩ := anew_cut (l := came) ho G hg (by omega) hr
  obtain ⟨N, he⟩ := hc ps
  have hlen := N.len
  rw [crL_len] at hlen
  have h1 := crL_tot ps (anewF came ⟨g, segs.length, false⟩ D).2.1.fl
  have h2 := A.tt
  exact ⟨_, good_new R hg0 hg (by omega) hok hn _, fun D hP ho ha => fin_new R hg0 hg (by omega) hok hn _ D hP ho ha, ⟨by omega, N, he⟩, A.kle, by omega, by omega⟩
end Go.Fw

set_option linter.unusedSimpArgs false
set_option linter.unusedVariables false
namespace Go.Fw
open Go.Proofs
variable {m m0 M : Mem} {S : List Nat} {L : List As}
variable {rb wb : Nat} {fv : Value} {rs : List Row} {D : Dk}
/-- rows of rows of bytes -/
structure RwV where
  v : Value
  vs : List Value
  ls : List Bs
def rwE (r : RwV) : List Value := [r.v]
theorem rwE_len (r : RwV) : (rwE r).length = 1 := rfl
structure RwOk (m : Mem) (r : RwV) : Prop where
  rv : RdS 1 v1 m r.v r.vs
  vs : F2 (fun v l => RdB m v l) r.vs r.ls
  vl : r.vs.length ≤ 9223372036854775807
  ll : ∀ l ∈ r.ls, l.length ≤ 9223372036854775807
abbrev cutM : NC := .seq law10_WalCuts_r15 (.seq law10_WalCuts_r16 (.seq law10_WalCuts_r17 (.seq (.seq law10_WalCuts_r18 (.cond (.slot 90) law10_WalCuts_r19 law10_WalCuts_r20)) cutTl)))
theorem cut_code : law10_WalCuts_c = .seq law10_WalCuts_r0 (.seq law10_WalCuts_r1 (.seq law10_WalCuts_r2 (.seq (.seq law10_WalCuts_r3 (.cond (.slot 52) (.seq law10_WalCuts_r4 .ret) .skip)) (.seq law10_WalCuts_r5 (.seq (.seq law10_WalCuts_r6 (.cond (.slot 61) (.seq law10_WalCuts_r7 .ret) .skip))
  (.seq (.seq law10_WalCuts_r8 (.block 0 (.loop [0, 1, 2, 3, 4, 5, 13, 15, 18, 19] law10_WalCuts_l0))) cutM)))))) := rfl
set_option maxHeartbeats 16000000 in
theorem cut_mid {vc w zv pv : Value} {us : List Value} {was : List Bs} {segs : List Bs} {F : List Fl} {n Q : Nat} {E : Env} (hQ : Q = 1048576) (H : Hq m0 m [] [wnA w us, wlA wb rb fv rs ⟨1, segs.length, false⟩ (dq Q F)])
    (ht : tot F ≤ 20 + 9100 * 8) (hK0 : 0 < segs.length) (hK : segs.length ≤ 9) (G : Gen F 1 segs) (R : SegR segs n was) (hus : us.length ≤ 48) (hU : F2 (fun v l => RdB m0 v l) us was)
    {vs : List Value} {ls : List Bs} (hcv : RdS 1 v1 m0 vc vs) (hcF : F2 (fun v l => RdB m0 v l) vs ls) (hcn : vs.length ≤ 9223372036854775807) (hcl : ∀ l ∈ ls, l.length ≤ 9223372036854775807)
    (an : Bool) (at_ : Int) (hat : R64i at_) {zs ps : List Int} (hz : RdS 1 ic m0 zv zs) (hzr : ∀ x ∈ zs, R64i x) (hzl : zs.length ≤ 9223372036854775807) (hp : RdS 1 ic m0 pv ps) (hpr : ∀ x ∈ ps, R64i x) (hpl : ps.length ≤ 20)
    (e1 : E.get 1 = vc) (e2 : E.get 2 = .bool an) (e3 : E.get 3 = .int .i64 at_) (e4 : E.get 4 = zv) (e5 : E.get 5 = pv) (e13 : E.get 13 = lpD rb) (e15 : E.get 15 = lpD wb) (e18 : E.get 18 = w)
    (h1 : E.has 1 = true) (h2 : E.has 2 = true) (h3 : E.has 3 = true) (h4 : E.has 4 = true) (h5 : E.has 5 = true) (h13 : E.has 13 = true) (h15 : E.has 15 = true) (h18 : E.has 18 = true) :
    wpN Tryz.prog cutM (retP [RV.slot 12] fun u M => u = .bool true ∧ Fr m0 M []) E m := by
  have hcr : ∀ p ∈ was, p.length ≤ 1000000000 := by
    obtain ⟨ls2, hh⟩ := R
    exact fun p hp => Nat.le_trans (hh.2.2.2.1 p hp).2 (by decide)
  have hul := F2_len hU
  unfold cutM
  generalize hC : cutTl = C
  simp (disch := omega) only [go_sem, undef, e1, e2, e3, e4, e5, e13, e15, e18, h1, h2, h3, h4, h5, h13, h15, h18]
  refine callN H (few_s (hcv.frame H.fr) (F2_imp hcF fun _ _ _ h => h.frame H.fr) hcn hcl hcF) fun u M A' hR f H => ?_
  refine Exists.elim hR fun ms hh => ?_
  obtain ⟨eA, hM⟩ := hh
  subst eA
  have hfo := fewL_ok ls
  have hml := F2_len hM
  have hfb := flat_bound (fewL ls) 1500 fun p hp => (hfo.1 p hp).2
  have hfk : ∀ p ∈ fewL ls, okR p := fun p hp => (hfo.1 p hp).1
  have hfs : ∀ p ∈ fewL ls, p.length ≤ 1000000000 := fun p hp => Nat.le_trans (hfo.1 p hp).2 (by decide)
  have hfl : (fewL ls).flatten.length ≤ 9000 := by omega
  have hfr : (frs (fewL ls)).length ≤ 9036 := by rw [frs_len]; omega
  have hhd := hdR_len (fewL ls)
  have hfn := hfo.2
  clear hfo hfb hR
  refine Exists.elim (⟨_, rfl⟩ : ∃ l, l = fewL ls) fun l hl => ?_
  rw [← hl] at hM hfk hfl hfr hhd hfn hml hfs
  clear hl
  simp (disch := omega) only [go_sem, undef, e1, e2, e3, e4, e5, e13, e15, e18]
  refine callR H (within_s at_ 0 5 (by decide) hat (by decide) (by decide)) fun u2 M hR f H => ?_
  refine Exists.elim hR fun r hh => ?_
  obtain ⟨eu, hr1, hr2⟩ := hh
  subst eu
  refine Exists.elim (⟨r.toNat, by omega⟩ : ∃ q : Nat, r = (q : Nat)) fun q eq => ?_
  subst eq
  clear hR
  simp (disch := omega) only [go_sem, undef, e1, e2, e3, e4, e5, e13, e15, e18]
  have H := H.rot3'.split
  have H : Hq m0 M [] [wcA wb rb ⟨1, segs.length, false⟩, dkA rb fv rs (dq Q F), wnA u ms, wnA w us] := H
  refine callA1 H (arm_s (H.at 1 rfl) q) fun u3 M A' hR f H => ?_
  refine Exists.elim hR.2 fun fv1 hh => Exists.elim hh fun rs1 eA => ?_
  have eu := hR.1
  subst eu eA
  clear hh hR
  have H : Hq m0 M [] [wcA wb rb ⟨1, segs.length, false⟩, dkA rb fv1 rs1 ⟨Q, F, false, true, q⟩, wnA u ms, wnA w us] := H
  have H : Hq m0 M [] [wlA wb rb fv1 rs1 ⟨1, segs.length, false⟩ ⟨Q, F, false, true, q⟩, wnA u ms, wnA w us] := Hq.join (A := wcA wb rb ⟨1, segs.length, false⟩) H
  have hlen := G.len
  have hrd := Own.rds (k := 1) (enc := v1) (by decide) v1_len (H.at 1 rfl)
  have hM2 : F2 (fun v l => RdB M v l) ms l := F2_imp hM fun _ _ _ h => h.frame H.fr
  cases an with
  | true =>
    have hcon := anew_s (H.at 0 rfl) (by simp only; omega) (by simp only; omega) hrd hM2 hfk (by omega) (by omega) (by simp only; omega) (by simp only; omega) (by simp only; omega) (by simp only; omega)
    have hcut := cut_new (D := ⟨Q, F, false, true, q⟩) rfl G R (by decide) (by decide) (by omega) hfk (by omega) (by simp only; omega) (by simp only; omega) ps
    revert hcut hcon
    refine Exists.elim (⟨_, rfl⟩ : ∃ o, o = anewF l ⟨1, segs.length, false⟩ ⟨Q, F, false, true, q⟩) fun o ho => ?_
    rw [← ho]
    clear ho
    obtain ⟨W1, D1, eo⟩ := o
    intro hcon hcut
    refine Exists.elim hcut fun P hP => ?_
    simp (disch := omega) only [go_sem, undef, e1, e2, e3, e4, e5, e13, e15, e18]
    refine callA0 H hcon fun u4 M A' hR f H => ?_
    refine Exists.elim hR.2 fun fv2 hh => Exists.elim hh fun rs2 eA => ?_
    have eu := hR.1
    subst eu eA
    clear hh hR
    have H := H.split.tail
    simp (disch := omega) only [go_sem, undef, e1, e2, e3, e4, e5, e13, e15, e18]
    subst hC
    exact cut_tail hP.good hP.fin (by omega) (by omega) hcr hfs hz hzr hzl hp hpr hpl H hM hU hP.now hP.kle hP.tt hP.len
  | false =>
    have hcon := add_s (H.at 0 rfl) (by simp only; omega) (by simp only; omega) hrd hM2 hfk (by omega) (by omega) (by simp only; omega) (by simp only; omega) (by simp only; omega) (by simp only; omega)
    have hcut := cut_add (D := ⟨Q, F, false, true, q⟩) rfl G R (by decide) (by decide) (by omega) hfk (by simp only; omega) (by simp only; omega) ps
    revert hcut hcon
    refine Exists.elim (⟨_, rfl⟩ : ∃ o, o = addF l ⟨1, segs.length, false⟩ ⟨Q, F, false, true, q⟩) fun o ho => ?_
    rw [← ho]
    clear ho
    obtain ⟨W1, D1, eo⟩ := o
    intro hcon hcut
    refine Exists.elim hcut fun P hP => ?_
    simp (disch := omega) only [go_sem, undef, e1, e2, e3, e4, e5, e13, e15, e18]
    refine callA0 H hcon fun u4 M A' hR f H => ?_
    refine Exists.elim hR.2 fun fv2 hh => Exists.elim hh fun rs2 eA => ?_
    have eu := hR.1
    subst eu eA
    clear hh hR
    have H := H.split.tail
    simp (disch := omega) only [go_sem, undef, e1, e2, e3, e4, e5, e13, e15, e18]
    subst hC
    exact cut_tail hP.good hP.fin (by omega) (by omega) hcr hfs hz hzr hzl hp hpr hpl H hM hU hP.now hP.kle hP.tt hP.len
set_option maxHeartbeats 32000000 in
theorem walCuts_s {v0 vc zv pv : Value} {rows : List RwV} (hv : RdS 1 rwE m v0 rows) (hA : ∀ r ∈ rows, RwOk m r) (hn : rows.length ≤ 9223372036854775807) {vs : List Value} {ls : List Bs} (hcv : RdS 1 v1 m vc vs) (hcF : F2 (fun v l => RdB m v l) vs ls) (hcn : vs.length ≤ 9223372036854775807) (hcl : ∀ l ∈ ls, l.length ≤ 9223372036854775807)
    (an : Bool) (at_ : Int) (hat : R64i at_) {zs ps : List Int} (hz : RdS 1 ic m zv zs) (hzr : ∀ x ∈ zs, R64i x) (hzl : zs.length ≤ 9223372036854775807) (hp : RdS 1 ic m pv ps) (hpr : ∀ x ∈ ps, R64i x) (hpn : ps.length ≤ 9223372036854775807) :
    MC Tryz.prog n_law10_WalCuts [v0, vc, .bool an, .int .i64 at_, zv, pv] m fun u M => u = .bool true ∧ Fr m M [] := by
  have hn1 : ∀ b : Nat, (some (⟨b, 0, none⟩ : Addr)).isNone = false := fun _ => rfl
  have nc0 : ((0 : Nat) : Int) = 0 := rfl
  obtain ⟨av, cv, rfl⟩ := hv.form
  obtain ⟨pa, pc, epv⟩ := hp.form
  obtain ⟨Q, hQ⟩ : ∃ Q, Q = 1048576 := ⟨_, rfl⟩
  have hcQ : (1048576 : Int) = ((Q : Nat) : Int) := by rw [hQ]; rfl
  subst epv
  refine law10_WalCuts_go (by simp [Tryz.f3]) ?_
  rw [cut_code]
  generalize hC : cutM = C
  have H := Hq.refl m []
  simp (disch := omega) only [go_sem, undef, hcQ]
  refine callN H (disk_New_s Q (by omega)) fun u M A' hR f H => ?_
  obtain ⟨rb, rfl, rfl⟩ := hR
  simp (disch := omega) only [go_sem, undef]
  refine callA0 H (open_0 (H.at 0 rfl) rfl (by simp)) fun u M A' hR f H => ?_
  obtain ⟨wb, w0, vs0, fv, rs, rfl, rfl⟩ := hR
  have H := H.split.tail
  have hok0 : Okd (dq Q []) := ⟨rfl, rfl, gen_nil.srt⟩
  have hl0 := hdR_len []
  have hl0 : (hdR []).length ≤ 16 := hl0
  have hs1 : ∀ b : Nat, (some (⟨b, 0, none⟩ : Addr)).isSome = true := fun _ => rfl
  by_cases hpl : ps.length > 20
  · simp (disch := omega) only [go_sem, undef, hn1, hs1, dec_t (show ((ps.length : Nat) : Int) > 20 by omega)]
    refine callQ H walRuns_s fun M f3 H => ?_
    simp (disch := omega) only [go_sem, undef]
    exact ⟨rfl, H.fr⟩
  simp (disch := omega) only [go_sem, undef, hn1, dec_f (show ¬ ((ps.length : Nat) : Int) > 20 by omega)]
  refine newQ H fun b2 M f2 H => ?_
  simp (disch := omega) only [go_sem, undef]
  have H := H.toRow (l := []) 1 0 0 rfl (by omega)
  simp only [Nat.zero_mul, List.take_zero] at H
  refine callA1 H (anew_g (g := 0) (segs := []) (H.at 1 rfl) hok0 gen_nil (by decide) (by decide) (RdS.nil v1_len M) .nil (by decide) (by decide) (by decide) (by simp [tot]) (by simp) (by simp only; omega) (by simp [tot]; omega)) fun u M A' hR f H => ?_
  obtain ⟨fv, rs, F, rfl, rfl, G, R, ht⟩ := hR
  have ht : tot F ≤ 20 := by simp [tot] at ht; simp [tot]; omega
  have H : Hq m M [] [wnA (.slice (some ⟨b2, 0, none⟩) 0 0) [], wlA wb rb fv rs ⟨1, ([hdR []] : List Bs).length, false⟩ (dq Q F)] := H
  simp (disch := omega) only [go_sem, undef]
  refine loopQ_intro (fun k E m' => ∃ i w us recs segs F fv rs n, i ≤ rows.length ∧ i ≤ 8 ∧ k = rows.length - i ∧ tot F ≤ 20 + 9100 * i ∧ 0 < segs.length ∧ segs.length ≤ 1 + i ∧ Gen F 1 segs ∧ SegR segs n recs ∧ us.length ≤ 6 * i ∧ F2 (fun v l => RdB m v l) us recs ∧
      E = [(0, .slice av rows.length cv), (1, vc), (2, .bool an), (3, .int .i64 at_), (4, zv), (5, .slice pa ps.length pc), (13, lpD rb), (15, lpD wb), (18, w), (19, .int .i64 (i : Nat))] ∧
      Hq m m' [] [wnA w us, wlA wb rb fv rs ⟨1, segs.length, false⟩ (dq Q F)]) rows.length rfl ⟨0, _, [], [], _, F, fv, rs, _, by omega, by omega, by omega, by omega, by simp, by simp, G, R, by simp, .nil, rfl, H⟩ ?_
  clear H f G R ht
  rintro k E M1 ⟨i, w, us, recs, segs, F, fv, rs, n, hi1, hi2, rfl, ht, hK0, hK, G, R, hus, hU, rfl, H⟩
  have hD : Okd (dq Q F) := ⟨rfl, rfl, G.srt⟩
  have hgo : i < rows.length ∧ i < 8 ∨ ¬ (i < rows.length ∧ i < 8) := Classical.em _
  rcases hgo with ⟨h1, h2⟩ | hend
  · simp (disch := omega) only [go_sem, undef, dec_t (show ((i : Nat) : Int) < (rows.length : Nat) by omega), dec_t (show ((i : Nat) : Int) < 8 by omega)]
    refine RdS.elK hv h1 (by decide) fun bx o x hx hix hE0 => ?_
    have hok := hA x (List.mem_of_getElem? hx)
    have hE := hE0.frame H.fr
    have hc0 : cellAt (M1 bx) o = some x.v := hE.cell 0 _ rfl
    simp (disch := omega) only [go_sem, undef, hix, hc0]
    refine callN H (few_s (hok.rv.frame H.fr) (F2_imp hok.vs fun _ _ _ h => h.frame H.fr) hok.vl hok.ll hok.vs) fun u M A' hR f H => ?_
    refine Exists.elim hR fun ms hh => ?_
    obtain ⟨eA, hM⟩ := hh
    subst eA
    have hfo := fewL_ok x.ls
    have hml := F2_len hM
    have hfb := flat_bound (fewL x.ls) 1500 fun p hp => (hfo.1 p hp).2
    have hfk : ∀ p ∈ fewL x.ls, okR p := fun p hp => (hfo.1 p hp).1
    have hfl : (fewL x.ls).flatten.length ≤ 9000 := by omega
    have hfr : (frs (fewL x.ls)).length ≤ 9036 := by rw [frs_len]; omega
    have hfn := hfo.2
    clear hfo hfb hR
    refine Exists.elim (⟨_, rfl⟩ : ∃ l, l = fewL x.ls) fun l hl => ?_
    rw [← hl] at hM hfk hfl hfr hfn hml
    simp (disch := omega) only [go_sem, undef]
    refine Own.formK (H.at 0 rfl) fun ma mc eu => ?_
    subst eu
    refine callA2 H (add_k (H.at 2 rfl) hD G R (by decide) (by omega) (by omega) hK0 (Own.rds (k := 1) (enc := v1) (by decide) v1_len (H.at 0 rfl)) (F2_imp hM fun _ _ _ h => h.frame H.fr) hfk (by omega) (by omega) (by simp only; omega) (by simp) (by simp only; omega) (by simp only; omega)) fun u M A' hR f H => ?_
    refine Exists.elim hR fun fv2 hh => Exists.elim hh fun rs2 hh => Exists.elim hh fun F2 hh => Exists.elim hh fun segs2 hh => ?_
    obtain ⟨eu, eA, G2, R2, ht2, hp2, hs2⟩ := hh
    subst eu eA
    clear hh hR
    have ht2 : tot F2 ≤ tot F + (frs l).length := ht2
    simp (disch := omega) only [go_sem, undef]
    refine appQ1 H (k := ms.length) rfl (ldS_of (Own.rds (k := 1) (enc := v1) (by decide) v1_len (H.at 0 rfl))) (fm_len v1_len ms) (wn_one hM) rfl (by omega) (by omega) fun w3 M f H => ?_
    rw [wn_app] at H
    simp (disch := omega) only [go_sem, undef]
    exact handN_intro (rows.length - (i + 1)) (by omega) ⟨i + 1, w3, us ++ ms, recs ++ l, segs2, F2, fv2, rs2, n, by omega, by omega, rfl, by omega, hp2, by omega, G2, R2, by rw [List.length_append]; omega, F2_append hU hM, rfl, H.tail⟩
  · by_cases h1 : i < rows.length
    · simp (disch := omega) only [go_sem, undef, dec_t (show ((i : Nat) : Int) < (rows.length : Nat) by omega), dec_f (show ¬ ((i : Nat) : Int) < 8 by omega)]
      subst hC
      refine cut_mid hQ H (by omega) hK0 (by omega) G R (by omega) hU hcv hcF hcn hcl an at_ hat hz hzr hzl hp hpr (by omega) ?_ ?_ ?_ ?_ ?_ ?_ ?_ ?_ ?_ ?_ ?_ ?_ ?_ ?_ ?_ ?_ <;> rfl
    · simp (disch := omega) only [go_sem, undef, dec_f (show ¬ ((i : Nat) : Int) < (rows.length : Nat) by omega)]
      subst hC
      refine cut_mid hQ H (by omega) hK0 (by omega) G R (by omega) hU hcv hcF hcn hcl an at_ hat hz hzr hzl hp hpr (by omega) ?_ ?_ ?_ ?_ ?_ ?_ ?_ ?_ ?_ ?_ ?_ ?_ ?_ ?_ ?_ ?_ <;> rfl
end Go.Fw

set_option linter.unusedVariables false
set_option linter.unusedSimpArgs false
namespace Go.Fw
open Go.RowKit Go.ChangeShapes Go.WideShapes
open Go.Proofs
/-- the rows of rows that came in -/
theorem trod_rw {H : Type} {enc : TypeId × Value → H} {W : World} {base : Nat} {held : Bool} {fuel : Nat} {cs : List Value} {x : DataW H × List MemPlace} (hf : DataW.trod enc Tryz.prog W base (fun _ => true) held fuel 23 cs = some x) : ∃ a, cs = rwE a ∧ RwOk (absM W) a := by
  obtain ⟨v, vs, ls, ev, h1, h2, h3, h4⟩ := trod_byteRows Tryz.underlying23 Tryz.underlying51 Tryz.underlying5 (by kernel_rfl) (by kernel_rfl) hf
  exact ⟨⟨v, vs, ls⟩, ev, h1, h2, h3, h4⟩
end Go.Fw
