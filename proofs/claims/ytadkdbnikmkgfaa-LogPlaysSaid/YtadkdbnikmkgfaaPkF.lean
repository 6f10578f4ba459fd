import Derived.Test.YtadkdbnikmkgfaaPkE
set_option linter.unusedSimpArgs false
set_option linter.unusedVariables false
namespace Go.Fw
open Go.Proofs
variable {m : Mem}
theorem endRec_ok {b : List UInt8} {i : Int × Int} {c : Cel} {s : RS} (h : (s.fin b).wr = 0) (hi : rightI i) : endRec b i c s = (i, c, 0) := by
  unfold endRec; rw [if_neg (not_not_intro h), if_pos hi]
theorem endRec_no {b : List UInt8} {i : Int × Int} {c : Cel} {s : RS} (h : (s.fin b).wr = 0) (hi : ¬ rightI i) : endRec b i c s = ((0, 0), Cel.zero, 4) := by
  unfold endRec; rw [if_neg (not_not_intro h), if_neg hi]
theorem endRec_err {b : List UInt8} {i : Int × Int} {c : Cel} {s : RS} (h : ¬ (s.fin b).wr = 0) : endRec b i c s = ((0, 0), Cel.zero, (s.fin b).wr) := by
  unfold endRec; rw [if_pos h]
theorem log_Replay_s {v : Value} {b : List UInt8} (hv : RdB m v b) (hb : b.length ≤ 1099511627776) : MC Try.prog n_log_Replay [v] m fun u M => u = .tuple #[pv (replay b).1, (replay b).2.1.v, .int .i64 (replay b).2.2] ∧ Fr m M [] := by
  refine log_Replay_go (by simp [Try.f33]) ?_
  have H := Hq.refl m []
  simp (disch := omega) only [go_sem, undef]
  repeat' (first
    | ((with_reducible refine newQ H fun _ _ f H2 => ?_); clear f; clear H; have H := H2; clear H2; simp (disch := omega) only [go_sem, undef, H.cs, *])
    | ((with_reducible refine wrQ0 H fun _ f H2 => ?_); clear f; clear H; have H := H2; clear H2; simp (disch := omega) only [go_sem, undef, H.cs, *])
    | ((with_reducible refine wrQ1 H fun _ f H2 => ?_); clear f; clear H; have H := H2; clear H2; simp (disch := omega) only [go_sem, undef, H.cs, *])
    | ((with_reducible refine wrQ2 H fun _ f H2 => ?_); clear f; clear H; have H := H2; clear H2; simp (disch := omega) only [go_sem, undef, H.cs, *])
    | ((with_reducible refine wrQ3 H fun _ f H2 => ?_); clear f; clear H; have H := H2; clear H2; simp (disch := omega) only [go_sem, undef, H.cs, *])
    | ((with_reducible refine wrQ4 H fun _ f H2 => ?_); clear f; clear H; have H := H2; clear H2; simp (disch := omega) only [go_sem, undef, H.cs, *])
    | ((with_reducible refine wrQ5 H fun _ f H2 => ?_); clear f; clear H; have H := H2; clear H2; simp (disch := omega) only [go_sem, undef, H.cs, *])
    | ((with_reducible refine stwQ0 H ?hl ?h1 fun _ f H2 => ?_); (case hl => rfl); (case h1 => rfl); clear f; clear H; have H := H2; clear H2; simp (disch := omega) only [go_sem, undef, H.cs, *])
    | ((with_reducible refine stwQ1 H ?hl ?h1 fun _ f H2 => ?_); (case hl => rfl); (case h1 => rfl); clear f; clear H; have H := H2; clear H2; simp (disch := omega) only [go_sem, undef, H.cs, *])
    | ((with_reducible refine stwQ2 H ?hl ?h1 fun _ f H2 => ?_); (case hl => rfl); (case h1 => rfl); clear f; clear H; have H := H2; clear H2; simp (disch := omega) only [go_sem, undef, H.cs, *])
    | ((with_reducible refine stwQ3 H ?hl ?h1 fun _ f H2 => ?_); (case hl => rfl); (case h1 => rfl); clear f; clear H; have H := H2; clear H2; simp (disch := omega) only [go_sem, undef, H.cs, *])
    | ((with_reducible refine stwQ4 H ?hl ?h1 fun _ f H2 => ?_); (case hl => rfl); (case h1 => rfl); clear f; clear H; have H := H2; clear H2; simp (disch := omega) only [go_sem, undef, H.cs, *])
    | ((with_reducible refine stwQ5 H ?hl ?h1 fun _ f H2 => ?_); (case hl => rfl); (case h1 => rfl); clear f; clear H; have H := H2; clear H2; simp (disch := omega) only [go_sem, undef, H.cs, *])
    | ((with_reducible refine stQ0 H ?hl ?h1 fun _ f H2 => ?_); (case hl => exact Nat.le_of_ble_eq_true rfl); (case h1 => rfl); clear f; (simp only [go_sem] at H2); clear H; have H := H2; clear H2; simp (disch := omega) only [go_sem, undef, H.cs, *])
    | ((with_reducible refine stQ1 H ?hl ?h1 fun _ f H2 => ?_); (case hl => exact Nat.le_of_ble_eq_true rfl); (case h1 => rfl); clear f; (simp only [go_sem] at H2); clear H; have H := H2; clear H2; simp (disch := omega) only [go_sem, undef, H.cs, *])
    | ((with_reducible refine stQ2 H ?hl ?h1 fun _ f H2 => ?_); (case hl => exact Nat.le_of_ble_eq_true rfl); (case h1 => rfl); clear f; (simp only [go_sem] at H2); clear H; have H := H2; clear H2; simp (disch := omega) only [go_sem, undef, H.cs, *])
    | ((with_reducible refine stQ3 H ?hl ?h1 fun _ f H2 => ?_); (case hl => exact Nat.le_of_ble_eq_true rfl); (case h1 => rfl); clear f; (simp only [go_sem] at H2); clear H; have H := H2; clear H2; simp (disch := omega) only [go_sem, undef, H.cs, *])
    | ((with_reducible refine gQ_split (fun hq => ?_) (fun hq => ?_)) <;> (try simp only [Bool.not_true, Bool.not_false] at hq) <;> simp (disch := omega) only [go_sem, undef, H.cs, *])
    | ((with_reducible refine condB_split (fun hq => ?_) (fun hq => ?_)) <;> simp (disch := omega) only [go_sem, undef, H.cs, *]))
  refine callN H (pack_Read_s (hv.frame H.fr) hb) fun u M A' ⟨rb, a, c, e, eA⟩ f H => ?_
  subst e eA
  simp (disch := omega) only [go_sem, undef]
  repeat' (first
    | ((with_reducible refine newQ H fun _ _ f H2 => ?_); clear f; clear H; have H := H2; clear H2; simp (disch := omega) only [go_sem, undef, H.cs, *])
    | ((with_reducible refine wrQ0 H fun _ f H2 => ?_); clear f; clear H; have H := H2; clear H2; simp (disch := omega) only [go_sem, undef, H.cs, *])
    | ((with_reducible refine wrQ1 H fun _ f H2 => ?_); clear f; clear H; have H := H2; clear H2; simp (disch := omega) only [go_sem, undef, H.cs, *])
    | ((with_reducible refine wrQ2 H fun _ f H2 => ?_); clear f; clear H; have H := H2; clear H2; simp (disch := omega) only [go_sem, undef, H.cs, *])
    | ((with_reducible refine wrQ3 H fun _ f H2 => ?_); clear f; clear H; have H := H2; clear H2; simp (disch := omega) only [go_sem, undef, H.cs, *])
    | ((with_reducible refine wrQ4 H fun _ f H2 => ?_); clear f; clear H; have H := H2; clear H2; simp (disch := omega) only [go_sem, undef, H.cs, *])
    | ((with_reducible refine wrQ5 H fun _ f H2 => ?_); clear f; clear H; have H := H2; clear H2; simp (disch := omega) only [go_sem, undef, H.cs, *])
    | ((with_reducible refine stwQ0 H ?hl ?h1 fun _ f H2 => ?_); (case hl => rfl); (case h1 => rfl); clear f; clear H; have H := H2; clear H2; simp (disch := omega) only [go_sem, undef, H.cs, *])
    | ((with_reducible refine stwQ1 H ?hl ?h1 fun _ f H2 => ?_); (case hl => rfl); (case h1 => rfl); clear f; clear H; have H := H2; clear H2; simp (disch := omega) only [go_sem, undef, H.cs, *])
    | ((with_reducible refine stwQ2 H ?hl ?h1 fun _ f H2 => ?_); (case hl => rfl); (case h1 => rfl); clear f; clear H; have H := H2; clear H2; simp (disch := omega) only [go_sem, undef, H.cs, *])
    | ((with_reducible refine stwQ3 H ?hl ?h1 fun _ f H2 => ?_); (case hl => rfl); (case h1 => rfl); clear f; clear H; have H := H2; clear H2; simp (disch := omega) only [go_sem, undef, H.cs, *])
    | ((with_reducible refine stwQ4 H ?hl ?h1 fun _ f H2 => ?_); (case hl => rfl); (case h1 => rfl); clear f; clear H; have H := H2; clear H2; simp (disch := omega) only [go_sem, undef, H.cs, *])
    | ((with_reducible refine stwQ5 H ?hl ?h1 fun _ f H2 => ?_); (case hl => rfl); (case h1 => rfl); clear f; clear H; have H := H2; clear H2; simp (disch := omega) only [go_sem, undef, H.cs, *])
    | ((with_reducible refine stQ0 H ?hl ?h1 fun _ f H2 => ?_); (case hl => exact Nat.le_of_ble_eq_true rfl); (case h1 => rfl); clear f; (simp only [go_sem] at H2); clear H; have H := H2; clear H2; simp (disch := omega) only [go_sem, undef, H.cs, *])
    | ((with_reducible refine stQ1 H ?hl ?h1 fun _ f H2 => ?_); (case hl => exact Nat.le_of_ble_eq_true rfl); (case h1 => rfl); clear f; (simp only [go_sem] at H2); clear H; have H := H2; clear H2; simp (disch := omega) only [go_sem, undef, H.cs, *])
    | ((with_reducible refine stQ2 H ?hl ?h1 fun _ f H2 => ?_); (case hl => exact Nat.le_of_ble_eq_true rfl); (case h1 => rfl); clear f; (simp only [go_sem] at H2); clear H; have H := H2; clear H2; simp (disch := omega) only [go_sem, undef, H.cs, *])
    | ((with_reducible refine stQ3 H ?hl ?h1 fun _ f H2 => ?_); (case hl => exact Nat.le_of_ble_eq_true rfl); (case h1 => rfl); clear f; (simp only [go_sem] at H2); clear H; have H := H2; clear H2; simp (disch := omega) only [go_sem, undef, H.cs, *])
    | ((with_reducible refine tS0 H (fun h => pack_Num_s h) fun _ f H2 => ?_); clear f; clear H; have H := H2; clear H2; simp (disch := omega) only [go_sem, undef, H.cs, *])
    | ((with_reducible refine tS1 H (fun h => pack_Num_s h) fun _ f H2 => ?_); clear f; clear H; have H := H2; clear H2; simp (disch := omega) only [go_sem, undef, H.cs, *])
    | ((with_reducible refine tS2 H (fun h => pack_Num_s h) fun _ f H2 => ?_); clear f; clear H; have H := H2; clear H2; simp (disch := omega) only [go_sem, undef, H.cs, *])
    | ((with_reducible refine tS3 H (fun h => pack_Num_s h) fun _ f H2 => ?_); clear f; clear H; have H := H2; clear H2; simp (disch := omega) only [go_sem, undef, H.cs, *])
    | ((with_reducible refine tS4 H (fun h => pack_Num_s h) fun _ f H2 => ?_); clear f; clear H; have H := H2; clear H2; simp (disch := omega) only [go_sem, undef, H.cs, *])
    | ((with_reducible refine tS0 H (fun h => letter_GetCell_s h) fun _ f H2 => ?_); clear f; clear H; have H := H2; clear H2; simp (disch := omega) only [go_sem, undef, H.cs, *])
    | ((with_reducible refine tS1 H (fun h => letter_GetCell_s h) fun _ f H2 => ?_); clear f; clear H; have H := H2; clear H2; simp (disch := omega) only [go_sem, undef, H.cs, *])
    | ((with_reducible refine tS2 H (fun h => letter_GetCell_s h) fun _ f H2 => ?_); clear f; clear H; have H := H2; clear H2; simp (disch := omega) only [go_sem, undef, H.cs, *])
    | ((with_reducible refine tS3 H (fun h => letter_GetCell_s h) fun _ f H2 => ?_); clear f; clear H; have H := H2; clear H2; simp (disch := omega) only [go_sem, undef, H.cs, *])
    | ((with_reducible refine tS4 H (fun h => letter_GetCell_s h) fun _ f H2 => ?_); clear f; clear H; have H := H2; clear H2; simp (disch := omega) only [go_sem, undef, H.cs, *])
    | ((with_reducible refine tS0 H (fun h => pack_End_s h) fun _ f H2 => ?_); clear f; clear H; have H := H2; clear H2; simp (disch := omega) only [go_sem, undef, H.cs, *])
    | ((with_reducible refine tS1 H (fun h => pack_End_s h) fun _ f H2 => ?_); clear f; clear H; have H := H2; clear H2; simp (disch := omega) only [go_sem, undef, H.cs, *])
    | ((with_reducible refine tS2 H (fun h => pack_End_s h) fun _ f H2 => ?_); clear f; clear H; have H := H2; clear H2; simp (disch := omega) only [go_sem, undef, H.cs, *])
    | ((with_reducible refine tS3 H (fun h => pack_End_s h) fun _ f H2 => ?_); clear f; clear H; have H := H2; clear H2; simp (disch := omega) only [go_sem, undef, H.cs, *])
    | ((with_reducible refine tS4 H (fun h => pack_End_s h) fun _ f H2 => ?_); clear f; clear H; have H := H2; clear H2; simp (disch := omega) only [go_sem, undef, H.cs, *])
    | ((with_reducible refine callQ H (inst_Right_s _ _) fun _ f H2 => ?_); clear f; clear H; have H := H2; clear H2; simp (disch := omega) only [go_sem, undef, H.cs, *])
    | ((with_reducible refine gQ_split (fun hq => ?_) (fun hq => ?_)) <;> (try simp only [Bool.not_true, Bool.not_false] at hq) <;> simp (disch := omega) only [go_sem, undef, H.cs, *])
    | ((with_reducible refine condB_split (fun hq => ?_) (fun hq => ?_)) <;> simp (disch := omega) only [go_sem, undef, H.cs, *]))
  all_goals (simp only [decide_eq_true_eq, decide_eq_false_iff_not] at *)
  all_goals (have F := H.fr; clear H; refine post_intro ⟨?_, F⟩; clear F)
  · rename_i hw
    rw [show replay b = _ from endRec_ok hw hq]; rfl
  · rename_i hw
    rw [show replay b = _ from endRec_no hw hq]
  · rw [show replay b = _ from endRec_err hq]; rfl
end Go.Fw
