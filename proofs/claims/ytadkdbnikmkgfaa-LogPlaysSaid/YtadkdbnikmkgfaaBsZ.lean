import Derived.Test.YtadkdbnikmkgfaaBsP
import Derived.Test.YtadkdbnikmkgfaaBsY
set_option linter.unusedSimpArgs false
set_option linter.unusedVariables false
namespace Go.Fw
open Go.Proofs
theorem Ask.one (a : Ask) : a.cs.all Value.oneCell' = true := rfl
abbrev AskOk (m : Mem) (v : Value) (l : List Ask) : Prop := RdS 31 Ask.cs m v l
def isLight (c : Cel) : Prop := (c.cmd.key.size : Int) + c.cmd.fin.size + c.cmd.old.size + c.cmd.val.size < 500
theorem log_List_q {m : Mem} {lb r : Nat} {cut : Dp} {l : LogL} (h : LogIs m lb r cut l) (hl : l.length < 1000000000) :
    CN Try.prog n_log_Log_List [lp lb] m fun u A => ∃ l', l'.Perm (keysC l) ∧ Asc l' ∧ A = ownA T_api_Inst 2 u l'.length (prs l') :=
  MC.mono (log_List_s h hl) fun u M ⟨⟨l', hp, ha, ho, hn⟩, f⟩ => ⟨_, ⟨l', hp, ha, rfl⟩, ho, f, hn⟩
theorem log_Top_q {m : Mem} {lb r : Nat} {cut : Dp} {l : LogL} (h : LogIs m lb r cut l) (hr : KeysOk l) :
    MC Try.prog n_log_Log_Top [lp lb] m fun v m' => v = (topD cut (keysC l)).v ∧ Fr m m' [] :=
  MC.mono (log_Top_s h hr) fun v M ⟨⟨l', hp, e⟩, f⟩ => ⟨by rw [e, topD_perm hp hr], f⟩
theorem upC_len (k : Int × Int) (c : Cel) (l : LogL) : (upC k c l).length ≤ l.length + 1 := by unfold upC; split <;> simp
theorem law_Tops_s (m : Mem) (v : Value) (l : List Ask) (hv : AskOk m v l) (upto : Dp) : MC Try.prog n_law16_LogTops [v, upto.v] m fun v m' => v = .bool true ∧ Fr m m' [] := by
  obtain ⟨a, c, rfl⟩ := hv.form
  refine law16_LogTops_go (by simp [Try.f33]) ?_
  have H := Hq.refl m []
  simp (disch := omega) only [go_sem, undef]
  refine newQ H fun b M f H => ?_
  simp (disch := omega) only [go_sem, undef]
  refine callN H (log_New_q _ _) fun v M A' ⟨lb, r, e, eA⟩ f H => ?_
  subst e eA
  rw [trim00] at H
  simp (disch := omega) only [go_sem, undef, Option.isNone_some]
  refine loopQ_intro (fun n E m' => ∃ k ll, k ≤ 40 ∧ n = 40 - k ∧ E = [(0, .slice a l.length c), (3, .pointer (some ⟨b, 0, none⟩)), (5, lp lb), (6, .int .i64 (k : Nat))] ∧ KeysOk ll ∧ ll.length ≤ k ∧ Hq m m' [] [logA lb r Dp.zero ll, cellA b (.cells (dv upto).toArray T_api_Deps (0, 0))]) 40 rfl ⟨0, [], by omega, rfl, rfl, by simp [keysC], by simp, H⟩ ?_
  clear H f
  rintro n E m' ⟨k, ll, hk, rfl, rfl, hkk, hlen, H⟩
  simp (disch := omega) only [go_sem, undef]
  by_cases h1 : k < l.length ∧ k < 40
  · obtain ⟨h1, h2⟩ := h1
    refine RdS.elK (RdS.frame hv H.fr) h1 (by decide) fun b1 o1 ak hak hx hE => ?_
    simp (disch := omega) only [go_sem, undef, dec_t, hx, hE.lda]
    refine callR H (law_light_s _ _) fun v M ⟨lt, e⟩ f4 H => ?_
    subst e
    simp (disch := omega) only [go_sem, undef]
    cases lt
    · simp (disch := omega) only [go_sem, undef]
      exact handN_intro (40 - (k + 1)) (by omega) ⟨k + 1, ll, by omega, rfl, rfl, hkk, by omega, H⟩
    · simp (disch := omega) only [go_sem, undef, H.cs, dec_t, hx, (hE.frame f4).lda]
      refine callS0 (logA lb r Dp.zero (if mayS Dp.zero ll ak.inst ak.cel then upC ak.inst ak.cel ll else ll)) H (log_Set_q (H.at 0 rfl) ak.inst ak.cel) rfl rfl fun M f6 H => ?_
      simp (disch := omega) only [go_sem, undef]
      refine handN_intro (40 - (k + 1)) (by omega) ⟨k + 1, _, by omega, rfl, rfl, keysOk_up hkk, ?_, H⟩
      have := upC_len ak.inst ak.cel ll
      split <;> omega
  · by_cases h2 : k < l.length
    all_goals
      clear hv
      simp (disch := omega) only [go_sem, undef, dec_t, dec_f]
      refine callQ H (log_Top_q (H.at 0 rfl) hkk) fun M f H => ?_
      simp (disch := omega) only [go_sem, undef]
      refine newQ H fun bt M f H => ?_
      simp (disch := omega) only [go_sem, undef]
      refine stwQ0 H rfl rfl fun M f H => ?_
      simp (disch := omega) only [go_sem, undef, H.cs]
      refine callS1 (logA lb r (trimD Dp.zero upto) (liveC (trimD Dp.zero upto) ll)) H (log_Trim_q (H.at 1 rfl) upto) rfl rfl fun M f H => ?_
      simp (disch := omega) only [go_sem, undef]
      refine callQ H (log_Cut_s (H.at 1 rfl)) fun M f H => ?_
      simp (disch := omega) only [go_sem, undef]
      have hlen2 : (liveC (trimD Dp.zero upto) ll).length ≤ 40 := by
        have := List.length_filter_le (fun p => decide (¬ goneD (trimD Dp.zero upto) p.1)) ll
        unfold liveC; omega
      refine callN H (log_List_q (H.at 1 rfl) (by omega)) fun u M A' ⟨l1, hp1, ha1, eA⟩ f H => ?_
      subst eA
      simp (disch := omega) only [go_sem, undef]
      refine newQ H fun bc M f H => ?_
      simp (disch := omega) only [go_sem, undef]
      refine stwQ0 H rfl rfl fun M f H => ?_
      simp (disch := omega) only [go_sem, undef]
      have hk1 : ∀ x ∈ l1, rightI x ∧ ¬ goneD (trimD Dp.zero upto) x ∧ x.2 ≤ (topD Dp.zero (keysC ll)).g x.1.toNat := fun x hx => by
        have h3 := mem_live.1 (hp1.mem_iff.1 hx)
        have h4 := hkk x h3.1
        exact ⟨h4, h3.2, ((topD_le Dp.zero (keysC ll) hkk x.1.toNat (by have := h4.1; have := h4.2.1; omega) _).1 (Int.le_refl _)).2 x h3.1 rfl⟩
      have hl1 : l1.length ≤ 40 := by rw [hp1.length_eq]; simpa [keysC] using hlen2
      refine Own.formK (H.at 1 rfl) fun a1 c1 e1 => ?_
      subst e1
      refine loopQ_intro (fun n E m' => ∃ k, k ≤ l1.length ∧ n = l1.length - k ∧ E = [(3, .pointer (some ⟨b, 0, none⟩)), (5, lp lb), (7, .pointer (some ⟨bt, 0, none⟩)), (8, .pointer (some ⟨bc, 0, none⟩)), (9, .slice a1 l1.length c1), (10, .int .i64 (k : Nat))] ∧
        Hq m m' [] [cellA bc (.cells (dv (trimD Dp.zero upto)).toArray T_api_Deps (0, 0)), ownA T_api_Inst 2 (.slice a1 l1.length c1) l1.length (prs l1), cellA bt (.cells (dv (topD Dp.zero (keysC ll))).toArray T_api_Deps (0, 0)), logA lb r (trimD Dp.zero upto) (liveC (trimD Dp.zero upto) ll), cellA b (.cells (dv upto).toArray T_api_Deps (0, 0))]) l1.length rfl ⟨0, by omega, rfl, rfl, H⟩ ?_
      clear H f
      rintro n E m' ⟨k1, hk2, rfl, rfl, H⟩
      simp (disch := omega) only [go_sem, undef]
      refine condB_dec (fun h3 => ?_) (fun h3 => ?_)
      · have h4 : k1 < l1.length := by omega
        refine RdS.elK (Own.rds (by decide) pc_len (H.at 1 rfl)) h4 (by decide) fun b1 o1 x hx hi hE => ?_
        obtain ⟨⟨y1, y2, y3, y4⟩, y5, y6⟩ := hk1 x (List.mem_of_getElem? hx)
        have y7 : (trimD Dp.zero upto).g x.1.toNat < x.2 := by
          have : ¬ x.2 ≤ (trimD Dp.zero upto).g x.1.toNat := fun h => y5 ⟨⟨y1, y2, y3, y4⟩, h⟩
          omega
        simp (disch := omega) only [go_sem, undef, H.cs, hi, hE.ld, hE.ld0, hE.lda0, dec_f]
        refine callQ H (log_Gone_s (H.at 3 rfl) x) fun M f H => ?_
        simp (disch := omega) only [go_sem, undef, decide_eq_false y5]
        exact handN_intro (l1.length - (k1 + 1)) (by omega) ⟨k1 + 1, by omega, rfl, rfl, H⟩
      · simp (disch := omega) only [go_sem, undef]
        have hkl : KeysOk (liveC (trimD Dp.zero upto) ll) := keysOk_live hkk
        refine callQ H (log_Top_q (H.at 3 rfl) hkl) fun M f H => ?_
        simp (disch := omega) only [go_sem, undef]
        refine newQ H fun bn M f H => ?_
        simp (disch := omega) only [go_sem, undef]
        refine stwQ0 H rfl rfl fun M f H => ?_
        simp (disch := omega) only [go_sem, undef]
        refine loopQ_intro (fun n E m' => ∃ k, k ≤ 7 ∧ n = 7 - k ∧ E = [(3, .pointer (some ⟨b, 0, none⟩)), (5, lp lb), (7, .pointer (some ⟨bt, 0, none⟩)), (8, .pointer (some ⟨bc, 0, none⟩)), (9, .slice a1 l1.length c1), (11, .pointer (some ⟨bn, 0, none⟩)), (12, .int .i64 (k : Nat))] ∧
          Hq m m' [] [cellA bn (.cells (dv (topD (trimD Dp.zero upto) (keysC (liveC (trimD Dp.zero upto) ll)))).toArray T_api_Deps (0, 0)), cellA bc (.cells (dv (trimD Dp.zero upto)).toArray T_api_Deps (0, 0)), ownA T_api_Inst 2 (.slice a1 l1.length c1) l1.length (prs l1), cellA bt (.cells (dv (topD Dp.zero (keysC ll))).toArray T_api_Deps (0, 0)), logA lb r (trimD Dp.zero upto) (liveC (trimD Dp.zero upto) ll), cellA b (.cells (dv upto).toArray T_api_Deps (0, 0))]) 7 rfl ⟨0, by omega, rfl, rfl, H⟩ ?_
        clear H f
        rintro n E m' ⟨k2, hk3, rfl, rfl, H⟩
        simp (disch := omega) only [go_sem, undef]
        refine condB_dec (fun h5 => ?_) (fun h5 => ?_)
        · have h6 : k2 < 7 := by omega
          have h7 : ∀ i, i < 7 → Dp.zero.g i ≤ (trimD Dp.zero upto).g i ∧ (trimD Dp.zero upto).g i ≤ 1073741824 ∧ Dp.zero.g i = 0 := fun i hi => by
            rw [trimD_g _ _ _ hi]
            have : Dp.zero.g i = 0 := by simp [Dp.g, hi]
            omega
          have h8 := top_live (c0 := Dp.zero) (cut := trimD Dp.zero upto) hkk (fun i hi => (h7 i hi).1) k2 h6
          have h9 := h7 k2 h6
          simp (disch := omega) only [go_sem, undef, H.cs, dec_f]
          exact handN_intro (7 - (k2 + 1)) (by omega) ⟨k2 + 1, by omega, rfl, rfl, H⟩
        · simp (disch := omega) only [go_sem, undef, H.cs]
          refine callS4 (logA lb r (trimD (trimD Dp.zero upto) upto) (liveC (trimD (trimD Dp.zero upto) upto) (liveC (trimD Dp.zero upto) ll))) H (log_Trim_q (H.at 4 rfl) upto) rfl rfl fun M f H => ?_
          rw [trim_twice, live_twice] at H
          simp (disch := omega) only [go_sem, undef]
          refine callS4 (logA lb r (trimD (trimD Dp.zero upto) Dp.zero) (liveC (trimD (trimD Dp.zero upto) Dp.zero) (liveC (trimD Dp.zero upto) ll))) H (log_Trim_q (H.at 4 rfl) Dp.zero) rfl rfl fun M f H => ?_
          have h7 : ∀ i, 0 ≤ (trimD Dp.zero upto) i := fun i => by simp only [trimD, Dp.zero]; omega
          rw [trim_zero h7, live_twice] at H
          simp (disch := omega) only [go_sem, undef, H.cs]
          refine callQ H (log_Cut_s (H.at 4 rfl)) fun M f H => ?_
          simp (disch := omega) only [go_sem, undef, H.cs]
          refine callN H (log_List_q (H.at 4 rfl) (by omega)) fun u2 M A' ⟨l2, hp2, ha2, eA⟩ f H => ?_
          subst eA
          obtain rfl : l2 = l1 := asc_eq ha2 ha1 (hp2.trans hp1.symm)
          simp (disch := omega) only [go_sem, undef]
          refine callQ H (same_Inst_s (Own.rds (by decide) pc_len (H.at 0 rfl)) (Own.rds (by decide) pc_len (H.at 3 rfl)) (by omega) (by omega)) fun M f H => ?_
          simp (disch := omega) only [go_sem, undef]
          refine callQ H (law_Runs_s _) fun M f H => ?_
          simp (disch := omega) only [go_sem, undef]
          exact ⟨rfl, H.fr⟩
end Go.Fw
