import Derived.Test.YtadkdbnikmkgfaaBsA
import Derived.Test.YtadkdbnikmkgfaaCd
set_option linter.unusedSimpArgs false
set_option linter.unusedVariables false
namespace Go.Fw
open Go.Proofs
theorem letter_RightCell_s (c : Cel) (m : Mem) : MC Try.prog n_letter_RightCell [c.v] m fun v m' => v = .bool (decide c.right) ∧ Fr m m' [] := by
  refine letter_RightCell_go (by simp [Try.f33]) ?_
  have H := Hp.refl m []
  simp (disch := omega) only [go_sem, undef]
  repeat' (first
    | (refine new_H H fun _ _ _ _ H => ?_; simp (disch := omega) only [go_sem, undef, H.hs, *])
    | (refine call_H H (inst_RightBallot_s _ _) fun _ _ H => ?_; simp (disch := omega) only [go_sem, undef, H.hs, *])
    | (refine call_H H (inst_Below_s _ _ _) fun _ _ H => ?_; simp (disch := omega) only [go_sem, undef, H.hs, *])
    | (refine call_H H (cmd_Right_s _ _) fun _ _ H => ?_; simp (disch := omega) only [go_sem, undef, H.hs, *])
    | (refine call_H H (deps_Right_s _ _) fun _ _ H => ?_; simp (disch := omega) only [go_sem, undef, H.hs, *])
    | (refine gQ_split (fun hq => ?_) (fun hq => ?_) <;> (try simp only [Bool.not_true, Bool.not_false] at hq) <;> simp (disch := omega) only [go_sem, undef, H.hs, *])
    | (refine condB_split (fun hq => ?_) (fun hq => ?_) <;> simp (disch := omega) only [go_sem, undef, H.hs, *])
    | (refine wr0 H fun _ _ H => ?_; simp (disch := omega) only [go_sem, undef, H.hs, *])
    | (refine wr1 H fun _ _ H => ?_; simp (disch := omega) only [go_sem, undef, H.hs, *])
    | (refine wr2 H fun _ _ H => ?_; simp (disch := omega) only [go_sem, undef, H.hs, *])
    | (refine wr3 H fun _ _ H => ?_; simp (disch := omega) only [go_sem, undef, H.hs, *])
    | (refine stw0 H rfl rfl fun _ _ H => ?_; simp (disch := omega) only [go_sem, undef, H.hs, *])
    | (refine stw1 H rfl rfl fun _ _ H => ?_; simp (disch := omega) only [go_sem, undef, H.hs, *]))
  all_goals (try simp only [decide_eq_true_eq, decide_eq_false_iff_not] at *)
  all_goals exact ⟨by first | rfl | (simp only [Value.bool.injEq, decide_eq_true_eq, eq_comm (a := true), eq_comm (a := false), decide_eq_false_iff_not, decide_eq_decide]; grind [Cel.right]), H.fr⟩
end Go.Fw
