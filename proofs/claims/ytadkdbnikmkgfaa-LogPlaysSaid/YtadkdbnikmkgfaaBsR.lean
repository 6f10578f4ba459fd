import Derived.Test.YtadkdbnikmkgfaaBsA
import Derived.Test.YtadkdbnikmkgfaaCdC
set_option linter.unusedSimpArgs false
set_option linter.unusedVariables false
namespace Go.Fw
open Go.Proofs
theorem ref1_RightInst_s (p : Int × Int) (m : Mem) : MC Try.prog n_ref1_RightInst [pv p] m fun v m' => v = .bool (decide (rightI p)) ∧ Fr m m' [] := by
  refine ref1_RightInst_go (by simp [Try.f33]) ?_
  have H := Hp.refl m []
  simp (disch := omega) only [go_sem, undef]
  repeat' (first
    | (refine new_H H fun _ _ _ _ H => ?_; simp (disch := omega) only [go_sem, undef, H.hs, *])
    | (refine gQ_split (fun hq => ?_) (fun hq => ?_) <;> (try simp only [Bool.not_true, Bool.not_false] at hq) <;> simp (disch := omega) only [go_sem, undef, H.hs, *])
    | (refine condB_split (fun hq => ?_) (fun hq => ?_) <;> simp (disch := omega) only [go_sem, undef, H.hs, *])
    | (refine wr0 H fun _ _ H => ?_; simp (disch := omega) only [go_sem, undef, H.hs, *])
    | (refine wr1 H fun _ _ H => ?_; simp (disch := omega) only [go_sem, undef, H.hs, *])
    | (refine wr2 H fun _ _ H => ?_; simp (disch := omega) only [go_sem, undef, H.hs, *])
    | (refine wr3 H fun _ _ H => ?_; simp (disch := omega) only [go_sem, undef, H.hs, *])
    | (refine stw0 H rfl rfl fun _ _ H => ?_; simp (disch := omega) only [go_sem, undef, H.hs, *])
    | (refine stw1 H rfl rfl fun _ _ H => ?_; simp (disch := omega) only [go_sem, undef, H.hs, *]))
  all_goals (try simp only [decide_eq_true_eq, decide_eq_false_iff_not] at *)
  all_goals exact ⟨by first | rfl | (simp only [Value.bool.injEq, decide_eq_true_eq, eq_comm (a := true), eq_comm (a := false), decide_eq_false_iff_not, decide_eq_decide]; grind []), H.fr⟩
theorem ref15_RightBallot_s (p : Int × Int) (m : Mem) : MC Try.prog n_ref15_RightBallot [pv p] m fun v m' => v = .bool (decide (rightB p)) ∧ Fr m m' [] := by
  refine ref15_RightBallot_go (by simp [Try.f33]) ?_
  have H := Hp.refl m []
  simp (disch := omega) only [go_sem, undef]
  repeat' (first
    | (refine new_H H fun _ _ _ _ H => ?_; simp (disch := omega) only [go_sem, undef, H.hs, *])
    | (refine gQ_split (fun hq => ?_) (fun hq => ?_) <;> (try simp only [Bool.not_true, Bool.not_false] at hq) <;> simp (disch := omega) only [go_sem, undef, H.hs, *])
    | (refine condB_split (fun hq => ?_) (fun hq => ?_) <;> simp (disch := omega) only [go_sem, undef, H.hs, *])
    | (refine wr0 H fun _ _ H => ?_; simp (disch := omega) only [go_sem, undef, H.hs, *])
    | (refine wr1 H fun _ _ H => ?_; simp (disch := omega) only [go_sem, undef, H.hs, *])
    | (refine wr2 H fun _ _ H => ?_; simp (disch := omega) only [go_sem, undef, H.hs, *])
    | (refine wr3 H fun _ _ H => ?_; simp (disch := omega) only [go_sem, undef, H.hs, *])
    | (refine stw0 H rfl rfl fun _ _ H => ?_; simp (disch := omega) only [go_sem, undef, H.hs, *])
    | (refine stw1 H rfl rfl fun _ _ H => ?_; simp (disch := omega) only [go_sem, undef, H.hs, *]))
  all_goals (try simp only [decide_eq_true_eq, decide_eq_false_iff_not] at *)
  all_goals exact ⟨by first | rfl | (simp only [Value.bool.injEq, decide_eq_true_eq, eq_comm (a := true), eq_comm (a := false), decide_eq_false_iff_not, decide_eq_decide]; grind []), H.fr⟩
theorem ref1_Less_s (p q : Int × Int) (m : Mem) : MC Try.prog n_ref1_Less [pv p, pv q] m fun v m' => v = .bool (decide (lt2 p q)) ∧ Fr m m' [] := by
  refine ref1_Less_go (by simp [Try.f33]) ?_
  have H := Hp.refl m []
  simp (disch := omega) only [go_sem, undef]
  repeat' (first
    | (refine new_H H fun _ _ _ _ H => ?_; simp (disch := omega) only [go_sem, undef, H.hs, *])
    | (refine gQ_split (fun hq => ?_) (fun hq => ?_) <;> (try simp only [Bool.not_true, Bool.not_false] at hq) <;> simp (disch := omega) only [go_sem, undef, H.hs, *])
    | (refine condB_split (fun hq => ?_) (fun hq => ?_) <;> simp (disch := omega) only [go_sem, undef, H.hs, *])
    | (refine wr0 H fun _ _ H => ?_; simp (disch := omega) only [go_sem, undef, H.hs, *])
    | (refine wr1 H fun _ _ H => ?_; simp (disch := omega) only [go_sem, undef, H.hs, *])
    | (refine wr2 H fun _ _ H => ?_; simp (disch := omega) only [go_sem, undef, H.hs, *])
    | (refine wr3 H fun _ _ H => ?_; simp (disch := omega) only [go_sem, undef, H.hs, *])
    | (refine stw0 H rfl rfl fun _ _ H => ?_; simp (disch := omega) only [go_sem, undef, H.hs, *])
    | (refine stw1 H rfl rfl fun _ _ H => ?_; simp (disch := omega) only [go_sem, undef, H.hs, *]))
  all_goals (try simp only [decide_eq_true_eq, decide_eq_false_iff_not] at *)
  all_goals exact ⟨by first | rfl | (simp only [Value.bool.injEq, decide_eq_true_eq, eq_comm (a := true), eq_comm (a := false), decide_eq_false_iff_not, decide_eq_decide]; grind []), H.fr⟩
theorem ref1_Below_s (p q : Int × Int) (m : Mem) : MC Try.prog n_ref1_Below [pv p, pv q] m fun v m' => v = .bool (decide (lt2 p q)) ∧ Fr m m' [] := by
  refine ref1_Below_go (by simp [Try.f33]) ?_
  have H := Hp.refl m []
  simp (disch := omega) only [go_sem, undef]
  repeat' (first
    | (refine new_H H fun _ _ _ _ H => ?_; simp (disch := omega) only [go_sem, undef, H.hs, *])
    | (refine gQ_split (fun hq => ?_) (fun hq => ?_) <;> (try simp only [Bool.not_true, Bool.not_false] at hq) <;> simp (disch := omega) only [go_sem, undef, H.hs, *])
    | (refine condB_split (fun hq => ?_) (fun hq => ?_) <;> simp (disch := omega) only [go_sem, undef, H.hs, *])
    | (refine wr0 H fun _ _ H => ?_; simp (disch := omega) only [go_sem, undef, H.hs, *])
    | (refine wr1 H fun _ _ H => ?_; simp (disch := omega) only [go_sem, undef, H.hs, *])
    | (refine wr2 H fun _ _ H => ?_; simp (disch := omega) only [go_sem, undef, H.hs, *])
    | (refine wr3 H fun _ _ H => ?_; simp (disch := omega) only [go_sem, undef, H.hs, *])
    | (refine stw0 H rfl rfl fun _ _ H => ?_; simp (disch := omega) only [go_sem, undef, H.hs, *])
    | (refine stw1 H rfl rfl fun _ _ H => ?_; simp (disch := omega) only [go_sem, undef, H.hs, *]))
  all_goals (try simp only [decide_eq_true_eq, decide_eq_false_iff_not] at *)
  all_goals exact ⟨by first | rfl | (simp only [Value.bool.injEq, decide_eq_true_eq, eq_comm (a := true), eq_comm (a := false), decide_eq_false_iff_not, decide_eq_decide]; grind []), H.fr⟩
theorem ref1_RightDeps_s (a : Dp) (m : Mem) : MC Try.prog n_ref1_RightDeps [Dp.v a] m fun v m' => v = .bool (decide (rightD a)) ∧ Fr m m' [] := by
  refine ref1_RightDeps_go (by simp [Try.f33]) ?_
  have H := Hp.refl m []
  simp (disch := omega) only [go_sem, undef]
  refine new_H H fun b M hb f H => ?_
  simp (disch := omega) only [go_sem, undef, H.hs]
  refine loopQ_intro (fun n E m' => ∃ k : Nat, k ≤ 7 ∧ n = 7 - k ∧ E = [(1, .pointer (some ⟨b, 0, none⟩)), (3, .int .i64 k)] ∧ (∀ i : Fin 7, i.val < k → 0 ≤ a i ∧ a i ≤ 1073741824) ∧ Hp m m' [] [(b, Obj.cells (dv a).toArray T_api_Deps)]) 7 rfl ⟨0, by omega, rfl, rfl, by simp, H⟩ ?_
  clear H f hb
  rintro n E m' ⟨k, hk, rfl, rfl, hall, H⟩
  simp (disch := omega) only [go_sem, undef, H.hs]
  refine condB_dec (fun h => ?_) (fun h => ?_)
  · have hk7 : k < 7 := by omega
    simp (disch := omega) only [go_sem, undef, H.hs]
    repeat' (first
      | (refine new_H H fun _ _ _ _ H => ?_; simp (disch := omega) only [go_sem, undef, H.hs, *])
      | (refine gQ_split (fun hq => ?_) (fun hq => ?_) <;> (try simp only [Bool.not_true, Bool.not_false] at hq) <;> simp (disch := omega) only [go_sem, undef, H.hs, *])
      | (refine condB_split (fun hq => ?_) (fun hq => ?_) <;> simp (disch := omega) only [go_sem, undef, H.hs, *])
      | (refine wr0 H fun _ _ H => ?_; simp (disch := omega) only [go_sem, undef, H.hs, *])
      | (refine wr1 H fun _ _ H => ?_; simp (disch := omega) only [go_sem, undef, H.hs, *])
      | (refine wr2 H fun _ _ H => ?_; simp (disch := omega) only [go_sem, undef, H.hs, *])
      | (refine wr3 H fun _ _ H => ?_; simp (disch := omega) only [go_sem, undef, H.hs, *])
      | (refine stw0 H rfl rfl fun _ _ H => ?_; simp (disch := omega) only [go_sem, undef, H.hs, *])
      | (refine stw1 H rfl rfl fun _ _ H => ?_; simp (disch := omega) only [go_sem, undef, H.hs, *]))
    all_goals (try simp only [Dp.g_lt _ hk7] at *)
    · exact ⟨by simp [rightD]; simp at hq; exact ⟨⟨k, hk7⟩, by omega⟩, H.fr⟩
    · refine handN_intro (7 - (k + 1)) (by omega) ⟨k + 1, by omega, rfl, rfl, fun i hi => ?_, H⟩
      simp only [decide_eq_false_iff_not] at *
      rcases Nat.lt_or_eq_of_le (Nat.le_of_lt_succ hi) with h | h
      · exact hall i h
      · have : i = ⟨k, hk7⟩ := Fin.ext h
        subst this; omega
    · exact ⟨by simp [rightD]; simp at hq; exact ⟨⟨k, hk7⟩, by omega⟩, H.fr⟩
  · simp (disch := omega) only [go_sem, undef, H.hs]
    exact ⟨by simp only [Value.bool.injEq, eq_comm (a := true), decide_eq_true_eq]; exact fun i => hall i (by omega), H.fr⟩
theorem ref1_RightAttr_s (a : Att) (m : Mem) : MC Try.prog n_ref1_RightAttr [a.v] m fun v m' => v = .bool (decide (rightA a)) ∧ Fr m m' [] := by
  refine ref1_RightAttr_go (by simp [Try.f33]) ?_
  have H := Hp.refl m []
  simp (disch := omega) only [go_sem, undef]
  repeat' (first
    | (refine new_H H fun _ _ _ _ H => ?_; simp (disch := omega) only [go_sem, undef, H.hs, *])
    | (refine call_H H (ref1_RightDeps_s _ _) fun _ _ H => ?_; simp (disch := omega) only [go_sem, undef, H.hs, *])
    | (refine gQ_split (fun hq => ?_) (fun hq => ?_) <;> (try simp only [Bool.not_true, Bool.not_false] at hq) <;> simp (disch := omega) only [go_sem, undef, H.hs, *])
    | (refine condB_split (fun hq => ?_) (fun hq => ?_) <;> simp (disch := omega) only [go_sem, undef, H.hs, *])
    | (refine wr0 H fun _ _ H => ?_; simp (disch := omega) only [go_sem, undef, H.hs, *])
    | (refine wr1 H fun _ _ H => ?_; simp (disch := omega) only [go_sem, undef, H.hs, *])
    | (refine wr2 H fun _ _ H => ?_; simp (disch := omega) only [go_sem, undef, H.hs, *])
    | (refine wr3 H fun _ _ H => ?_; simp (disch := omega) only [go_sem, undef, H.hs, *])
    | (refine stw0 H rfl rfl fun _ _ H => ?_; simp (disch := omega) only [go_sem, undef, H.hs, *])
    | (refine stw1 H rfl rfl fun _ _ H => ?_; simp (disch := omega) only [go_sem, undef, H.hs, *]))
  all_goals (try simp only [decide_eq_true_eq, decide_eq_false_iff_not] at *)
  all_goals exact ⟨by first | rfl | (simp only [Value.bool.injEq, decide_eq_true_eq, eq_comm (a := true), eq_comm (a := false), decide_eq_false_iff_not, decide_eq_decide]; grind []), H.fr⟩
theorem ref1_Right_s (c : Cmd) (m : Mem) : MC Try.prog n_ref1_Right [c.v] m fun v m' => v = .bool (decide c.right) ∧ Fr m m' [] := by
  refine ref1_Right_go (by simp [Try.f33]) ?_
  have H := Hp.refl m []
  simp (disch := omega) only [go_sem, undef]
  repeat' (first
    | (refine new_H H fun _ _ _ _ H => ?_; simp (disch := omega) only [go_sem, undef, H.hs, *])
    | (refine gQ_split (fun hq => ?_) (fun hq => ?_) <;> (try simp only [Bool.not_true, Bool.not_false] at hq) <;> simp (disch := omega) only [go_sem, undef, H.hs, *])
    | (refine condB_split (fun hq => ?_) (fun hq => ?_) <;> simp (disch := omega) only [go_sem, undef, H.hs, *])
    | (refine wr0 H fun _ _ H => ?_; simp (disch := omega) only [go_sem, undef, H.hs, *])
    | (refine wr1 H fun _ _ H => ?_; simp (disch := omega) only [go_sem, undef, H.hs, *])
    | (refine wr2 H fun _ _ H => ?_; simp (disch := omega) only [go_sem, undef, H.hs, *])
    | (refine wr3 H fun _ _ H => ?_; simp (disch := omega) only [go_sem, undef, H.hs, *])
    | (refine stw0 H rfl rfl fun _ _ H => ?_; simp (disch := omega) only [go_sem, undef, H.hs, *])
    | (refine stw1 H rfl rfl fun _ _ H => ?_; simp (disch := omega) only [go_sem, undef, H.hs, *]))
  all_goals (try simp only [decide_eq_true_eq, decide_eq_false_iff_not] at *)
  trace_state
  all_goals (try simp only [decide_eq_true_eq, decide_eq_false_iff_not] at *)
  all_goals exact ⟨by first | rfl | (simp only [Value.bool.injEq, decide_eq_true_eq, eq_comm (a := true), eq_comm (a := false), decide_eq_false_iff_not, decide_eq_decide]; grind [Cmd.right, Cmd.bare]), H.fr⟩
theorem ref15_RightCell_s (c : Cel) (m : Mem) : MC Try.prog n_ref15_RightCell [c.v] m fun v m' => v = .bool (decide c.right) ∧ Fr m m' [] := by
  refine ref15_RightCell_go (by simp [Try.f33]) ?_
  have H := Hp.refl m []
  simp (disch := omega) only [go_sem, undef]
  repeat' (first
    | (refine new_H H fun _ _ _ _ H => ?_; simp (disch := omega) only [go_sem, undef, H.hs, *])
    | (refine call_H H (ref15_RightBallot_s _ _) fun _ _ H => ?_; simp (disch := omega) only [go_sem, undef, H.hs, *])
    | (refine call_H H (ref1_Below_s _ _ _) fun _ _ H => ?_; simp (disch := omega) only [go_sem, undef, H.hs, *])
    | (refine call_H H (ref1_Right_s _ _) fun _ _ H => ?_; simp (disch := omega) only [go_sem, undef, H.hs, *])
    | (refine call_H H (ref1_RightAttr_s _ _) fun _ _ H => ?_; simp (disch := omega) only [go_sem, undef, H.hs, *])
    | (refine gQ_split (fun hq => ?_) (fun hq => ?_) <;> (try simp only [Bool.not_true, Bool.not_false] at hq) <;> simp (disch := omega) only [go_sem, undef, H.hs, *])
    | (refine condB_split (fun hq => ?_) (fun hq => ?_) <;> simp (disch := omega) only [go_sem, undef, H.hs, *])
    | (refine wr0 H fun _ _ H => ?_; simp (disch := omega) only [go_sem, undef, H.hs, *])
    | (refine wr1 H fun _ _ H => ?_; simp (disch := omega) only [go_sem, undef, H.hs, *])
    | (refine wr2 H fun _ _ H => ?_; simp (disch := omega) only [go_sem, undef, H.hs, *])
    | (refine wr3 H fun _ _ H => ?_; simp (disch := omega) only [go_sem, undef, H.hs, *])
    | (refine stw0 H rfl rfl fun _ _ H => ?_; simp (disch := omega) only [go_sem, undef, H.hs, *])
    | (refine stw1 H rfl rfl fun _ _ H => ?_; simp (disch := omega) only [go_sem, undef, H.hs, *]))
  all_goals (try simp only [decide_eq_true_eq, decide_eq_false_iff_not] at *)
  all_goals exact ⟨by first | rfl | (simp only [Value.bool.injEq, decide_eq_true_eq, eq_comm (a := true), eq_comm (a := false), decide_eq_false_iff_not, decide_eq_decide]; grind [Cel.right, Cel.zero_iff]), H.fr⟩
end Go.Fw
