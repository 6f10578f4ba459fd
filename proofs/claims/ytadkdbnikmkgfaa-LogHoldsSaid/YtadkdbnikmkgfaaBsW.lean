import Derived.Test.YtadkdbnikmkgfaaBsX
set_option linter.unusedSimpArgs false
set_option linter.unusedVariables false
namespace Go.Fw
open Go.Proofs
theorem Ask.one (a : Ask) : a.cs.all Value.oneCell' = true := rfl
abbrev AskOk (m : Mem) (v : Value) (l : List Ask) : Prop := RdS 31 Ask.cs m v l
theorem lkC_upC_self (k : Int × Int) (c : Cel) (l : LogL) : lkC k (upC k c l) = some c := by rw [lkC_up, if_pos rfl]

theorem law_Holds_s (m : Mem) (v : Value) (l : List Ask) (hv : AskOk m v l) : MC Try.prog n_law16_LogHolds [v] m fun v m' => v = .bool true ∧ Fr m m' [] := by
  obtain ⟨a, c, rfl⟩ := hv.form
  refine law16_LogHolds_go (by simp [Try.f33]) ?_
  have H := Hq.refl m []
  simp (disch := omega) only [go_sem, undef]
  refine callN H (log_New_q _ _) fun v M A' ⟨lb, r, e, eA⟩ f H => ?_
  subst e eA
  rw [trim00] at H
  simp (disch := omega) only [go_sem, undef, Option.isNone_some]
  refine loopQ_intro (fun n E m' => ∃ k ll, k ≤ 60 ∧ n = 60 - k ∧ E = [(0, .slice a l.length c), (3, lp lb), (4, .int .i64 (k : Nat))] ∧ Hq m m' [] [logA lb r Dp.zero ll]) 60 rfl ⟨0, [], by omega, rfl, rfl, H⟩ ?_
  clear H f
  rintro n E m' ⟨k, ll, hk, rfl, rfl, H⟩
  simp (disch := omega) only [go_sem, undef]
  by_cases h1 : k < l.length ∧ k < 60
  · obtain ⟨h1, h2⟩ := h1
    refine RdS.elK (RdS.frame hv H.fr) h1 (by decide) fun b1 o1 ak hak hx hc1 _ => ?_
    simp (disch := omega) only [go_sem, undef, dec_t, hx, hc1]
    refine newQ H fun b2 M f2 H => ?_
    simp (disch := omega) only [go_sem, undef]
    refine stwQ0 H (Ask.len _) (Ask.one _) fun M f3 H => ?_
    simp (disch := omega) only [go_sem, undef, H.cs]
    refine callR H (law_light_s _ _) fun v M ⟨lt, e⟩ f4 H => ?_
    subst e
    simp (disch := omega) only [go_sem, undef]
    cases lt
    · simp (disch := omega) only [go_sem, undef]
      exact handN_intro (60 - (k + 1)) (by omega) ⟨k + 1, ll, by omega, rfl, rfl, H.tail⟩
    · simp (disch := omega) only [go_sem, undef, H.cs]
      refine callQ H (log_Cell_s (H.at 1 rfl) ak.inst) fun M f5 H => ?_
      simp (disch := omega) only [go_sem, undef, H.cs]
      repeat' (first
        | (refine newQ H fun _ _ _ H => ?_; simp (disch := omega) only [go_sem, undef, H.cs, *])
        | (refine gQ_split (fun hq => ?_) (fun hq => ?_) <;> (try simp only [Bool.not_true, Bool.not_false] at hq) <;> simp (disch := omega) only [go_sem, undef, H.cs, *])
        | (refine condB_split (fun hq => ?_) (fun hq => ?_) <;> simp (disch := omega) only [go_sem, undef, H.cs, *])
        | (refine wrQ0 H fun _ _ H => ?_; simp (disch := omega) only [go_sem, undef, H.cs, *])
        | (refine wrQ1 H fun _ _ H => ?_; simp (disch := omega) only [go_sem, undef, H.cs, *])
        | (refine wrQ2 H fun _ _ H => ?_; simp (disch := omega) only [go_sem, undef, H.cs, *])
        | (refine wrQ3 H fun _ _ H => ?_; simp (disch := omega) only [go_sem, undef, H.cs, *])
        | (refine wrQ4 H fun _ _ H => ?_; simp (disch := omega) only [go_sem, undef, H.cs, *])
        | (refine stwQ0 H rfl rfl fun _ _ H => ?_; simp (disch := omega) only [go_sem, undef, H.cs, *])
        | (refine stwQ1 H rfl rfl fun _ _ H => ?_; simp (disch := omega) only [go_sem, undef, H.cs, *])
        | (refine stwQ2 H rfl rfl fun _ _ H => ?_; simp (disch := omega) only [go_sem, undef, H.cs, *]))
      refine callS2 (logA lb r Dp.zero (if mayS Dp.zero ll ak.inst ak.cel then upC ak.inst ak.cel ll else ll)) H (log_Set_q (H.at 2 rfl) ak.inst ak.cel) rfl rfl fun M f6 H => ?_
      simp (disch := omega) only [go_sem, undef, H.cs]
      refine callQ H (log_Cell_s (H.at 2 rfl) ak.inst) fun M f7 H => ?_
      by_cases hm : mayS Dp.zero ll ak.inst ak.cel
      · have ho := hm.2.2.2
        rw [if_pos hm] at H
        simp (disch := omega) only [go_sem, undef, H.cs, if_pos hm, lkC_upC_self, decide_eq_true hm, Option.isSome_some]
        repeat' (first
          | (refine newQ H fun _ _ _ H => ?_; simp (disch := omega) only [go_sem, undef, H.cs, *, if_pos hm, lkC_upC_self, decide_eq_true hm, Option.isSome_some])
          | (refine callQ H (inst_Below_s _ _ _) fun _ _ H => ?_; simp (disch := omega) only [go_sem, undef, H.cs, *, if_pos hm, lkC_upC_self, decide_eq_true hm, Option.isSome_some])
          | (refine gQ_split (fun hq => ?_) (fun hq => ?_) <;> (try simp only [Bool.not_true, Bool.not_false] at hq) <;> simp (disch := omega) only [go_sem, undef, H.cs, *, if_pos hm, lkC_upC_self, decide_eq_true hm, Option.isSome_some])
          | (refine condB_split (fun hq => ?_) (fun hq => ?_) <;> simp (disch := omega) only [go_sem, undef, H.cs, *, if_pos hm, lkC_upC_self, decide_eq_true hm, Option.isSome_some])
          | (refine wrQ0 H fun _ _ H => ?_; simp (disch := omega) only [go_sem, undef, H.cs, *, if_pos hm, lkC_upC_self, decide_eq_true hm, Option.isSome_some])
          | (refine wrQ1 H fun _ _ H => ?_; simp (disch := omega) only [go_sem, undef, H.cs, *, if_pos hm, lkC_upC_self, decide_eq_true hm, Option.isSome_some])
          | (refine wrQ2 H fun _ _ H => ?_; simp (disch := omega) only [go_sem, undef, H.cs, *, if_pos hm, lkC_upC_self, decide_eq_true hm, Option.isSome_some])
          | (refine wrQ3 H fun _ _ H => ?_; simp (disch := omega) only [go_sem, undef, H.cs, *, if_pos hm, lkC_upC_self, decide_eq_true hm, Option.isSome_some])
          | (refine wrQ4 H fun _ _ H => ?_; simp (disch := omega) only [go_sem, undef, H.cs, *, if_pos hm, lkC_upC_self, decide_eq_true hm, Option.isSome_some])
          | (refine stwQ0 H rfl rfl fun _ _ H => ?_; simp (disch := omega) only [go_sem, undef, H.cs, *, if_pos hm, lkC_upC_self, decide_eq_true hm, Option.isSome_some])
          | (refine stwQ1 H rfl rfl fun _ _ H => ?_; simp (disch := omega) only [go_sem, undef, H.cs, *, if_pos hm, lkC_upC_self, decide_eq_true hm, Option.isSome_some])
          | (refine stwQ2 H rfl rfl fun _ _ H => ?_; simp (disch := omega) only [go_sem, undef, H.cs, *, if_pos hm, lkC_upC_self, decide_eq_true hm, Option.isSome_some]))
        all_goals first
          | (refine handN_intro (60 - (k + 1)) (by omega) ⟨k + 1, _, by omega, rfl, rfl, H.tail.tail.tail⟩)
          | (exfalso; clear H hm; cases hw : lkC ak.inst ll <;> grind [oldOk, mayC])
      · rw [if_neg hm] at H
        simp (disch := omega) only [go_sem, undef, H.cs, if_neg hm, decide_eq_false hm]
        repeat' (first
          | (refine newQ H fun _ _ _ H => ?_; simp (disch := omega) only [go_sem, undef, H.cs, *, if_neg hm, decide_eq_false hm])
          | (refine callQ H (inst_Below_s _ _ _) fun _ _ H => ?_; simp (disch := omega) only [go_sem, undef, H.cs, *, if_neg hm, decide_eq_false hm])
          | (refine gQ_split (fun hq => ?_) (fun hq => ?_) <;> (try simp only [Bool.not_true, Bool.not_false] at hq) <;> simp (disch := omega) only [go_sem, undef, H.cs, *, if_neg hm, decide_eq_false hm])
          | (refine condB_split (fun hq => ?_) (fun hq => ?_) <;> simp (disch := omega) only [go_sem, undef, H.cs, *, if_neg hm, decide_eq_false hm])
          | (refine wrQ0 H fun _ _ H => ?_; simp (disch := omega) only [go_sem, undef, H.cs, *, if_neg hm, decide_eq_false hm])
          | (refine wrQ1 H fun _ _ H => ?_; simp (disch := omega) only [go_sem, undef, H.cs, *, if_neg hm, decide_eq_false hm])
          | (refine wrQ2 H fun _ _ H => ?_; simp (disch := omega) only [go_sem, undef, H.cs, *, if_neg hm, decide_eq_false hm])
          | (refine wrQ3 H fun _ _ H => ?_; simp (disch := omega) only [go_sem, undef, H.cs, *, if_neg hm, decide_eq_false hm])
          | (refine wrQ4 H fun _ _ H => ?_; simp (disch := omega) only [go_sem, undef, H.cs, *, if_neg hm, decide_eq_false hm])
          | (refine stwQ0 H rfl rfl fun _ _ H => ?_; simp (disch := omega) only [go_sem, undef, H.cs, *, if_neg hm, decide_eq_false hm])
          | (refine stwQ1 H rfl rfl fun _ _ H => ?_; simp (disch := omega) only [go_sem, undef, H.cs, *, if_neg hm, decide_eq_false hm])
          | (refine stwQ2 H rfl rfl fun _ _ H => ?_; simp (disch := omega) only [go_sem, undef, H.cs, *, if_neg hm, decide_eq_false hm]))
        all_goals first
          | (refine handN_intro (60 - (k + 1)) (by omega) ⟨k + 1, _, by omega, rfl, rfl, H.tail.tail.tail⟩)
          | (exfalso; clear H hm; cases hw : lkC ak.inst ll <;> grind [oldOk, mayC])
  · by_cases h2 : k < l.length
    · have h3 : ¬ k < 60 := fun h => h1 ⟨h2, h⟩
      simp (disch := omega) only [go_sem, undef, dec_t, dec_f]
      refine callQ H (law_Runs_s _) fun M f H => ?_
      simp (disch := omega) only [go_sem, undef]
      exact ⟨rfl, H.fr⟩
    · simp (disch := omega) only [go_sem, undef, dec_t, dec_f]
      refine callQ H (law_Runs_s _) fun M f H => ?_
      simp (disch := omega) only [go_sem, undef]
      exact ⟨rfl, H.fr⟩
end Go.Fw
