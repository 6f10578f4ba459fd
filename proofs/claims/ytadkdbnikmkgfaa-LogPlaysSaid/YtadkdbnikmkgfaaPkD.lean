import Derived.Test.YtadkdbnikmkgfaaPkC
import Derived.Test.YtadkdbnikmkgfaaPkQ
import Derived.Test.YtadkdbnikmkgfaaBsB
import Derived.Test.YtadkdbnikmkgfaaCdL
set_option linter.unusedSimpArgs false
set_option linter.unusedVariables false
namespace Go.Fw
open Go.Proofs
variable {t rb : Nat} {a : Option Addr} {c : Nat} {b : List UInt8} {s : RS} {m m0 : Mem} {S : List Nat} {L : List As}
set_option maxHeartbeats 2000000 in
theorem cmd_Get_s (h : (rdrA t rb a c b s).p m) : MC Try.prog n_cmd_Get [lpp rb] m fun v M => (v = (getCmd b s).1.v ∧ (rdrA t rb a c b (getCmd b s).2).p M) ∧ Fr m M [rb] := by
  refine cmd_Get_go (by simp [Try.f33]) ?_
  have H := Hq.one h
  simp (disch := omega) only [go_sem, undef]
  repeat' (first
    | ((with_reducible refine newQ H fun _ _ f H2 => ?_); clear f; clear H; have H := H2; clear H2; simp (disch := omega) only [go_sem, undef, H.cs, *])
    | ((with_reducible refine wrQ0 H fun _ f H2 => ?_); clear f; clear H; have H := H2; clear H2; simp (disch := omega) only [go_sem, undef, H.cs, *])
    | ((with_reducible refine wrQ1 H fun _ f H2 => ?_); clear f; clear H; have H := H2; clear H2; simp (disch := omega) only [go_sem, undef, H.cs, *])
    | ((with_reducible refine wrQ2 H fun _ f H2 => ?_); clear f; clear H; have H := H2; clear H2; simp (disch := omega) only [go_sem, undef, H.cs, *])
    | ((with_reducible refine wrQ3 H fun _ f H2 => ?_); clear f; clear H; have H := H2; clear H2; simp (disch := omega) only [go_sem, undef, H.cs, *])
    | ((with_reducible refine wrQ4 H fun _ f H2 => ?_); clear f; clear H; have H := H2; clear H2; simp (disch := omega) only [go_sem, undef, H.cs, *])
    | ((with_reducible refine wrQ5 H fun _ f H2 => ?_); clear f; clear H; have H := H2; clear H2; simp (disch := omega) only [go_sem, undef, H.cs, *])
    | ((with_reducible refine stwQ0 H ?hl ?h1 fun _ f H2 => ?_); (case hl => rfl); (case h1 => rfl); clear f; clear H; have H := H2; clear H2; simp (disch := omega) only [go_sem, undef, H.cs, *])
    | ((with_reducible refine stwQ1 H ?hl ?h1 fun _ f H2 => ?_); (case hl => rfl); (case h1 => rfl); clear f; clear H; have H := H2; clear H2; simp (disch := omega) only [go_sem, undef, H.cs, *])
    | ((with_reducible refine stwQ2 H ?hl ?h1 fun _ f H2 => ?_); (case hl => rfl); (case h1 => rfl); clear f; clear H; have H := H2; clear H2; simp (disch := omega) only [go_sem, undef, H.cs, *])
    | ((with_reducible refine stwQ3 H ?hl ?h1 fun _ f H2 => ?_); (case hl => rfl); (case h1 => rfl); clear f; clear H; have H := H2; clear H2; simp (disch := omega) only [go_sem, undef, H.cs, *])
    | ((with_reducible refine stwQ4 H ?hl ?h1 fun _ f H2 => ?_); (case hl => rfl); (case h1 => rfl); clear f; clear H; have H := H2; clear H2; simp (disch := omega) only [go_sem, undef, H.cs, *])
    | ((with_reducible refine stwQ5 H ?hl ?h1 fun _ f H2 => ?_); (case hl => rfl); (case h1 => rfl); clear f; clear H; have H := H2; clear H2; simp (disch := omega) only [go_sem, undef, H.cs, *])
    | ((with_reducible refine stQ0 H ?hl ?h1 fun _ f H2 => ?_); (case hl => exact Nat.le_of_ble_eq_true rfl); (case h1 => rfl); clear f; (simp only [go_sem] at H2); clear H; have H := H2; clear H2; simp (disch := omega) only [go_sem, undef, H.cs, *])
    | ((with_reducible refine stQ1 H ?hl ?h1 fun _ f H2 => ?_); (case hl => exact Nat.le_of_ble_eq_true rfl); (case h1 => rfl); clear f; (simp only [go_sem] at H2); clear H; have H := H2; clear H2; simp (disch := omega) only [go_sem, undef, H.cs, *])
    | ((with_reducible refine stQ2 H ?hl ?h1 fun _ f H2 => ?_); (case hl => exact Nat.le_of_ble_eq_true rfl); (case h1 => rfl); clear f; (simp only [go_sem] at H2); clear H; have H := H2; clear H2; simp (disch := omega) only [go_sem, undef, H.cs, *])
    | ((with_reducible refine stQ3 H ?hl ?h1 fun _ f H2 => ?_); (case hl => exact Nat.le_of_ble_eq_true rfl); (case h1 => rfl); clear f; (simp only [go_sem] at H2); clear H; have H := H2; clear H2; simp (disch := omega) only [go_sem, undef, H.cs, *])
    | ((with_reducible refine tS0 H (fun h => pack_Num_s h) fun _ f H2 => ?_); clear f; clear H; have H := H2; clear H2; simp (disch := omega) only [go_sem, undef, H.cs, *])
    | ((with_reducible refine tS1 H (fun h => pack_Num_s h) fun _ f H2 => ?_); clear f; clear H; have H := H2; clear H2; simp (disch := omega) only [go_sem, undef, H.cs, *])
    | ((with_reducible refine tS2 H (fun h => pack_Num_s h) fun _ f H2 => ?_); clear f; clear H; have H := H2; clear H2; simp (disch := omega) only [go_sem, undef, H.cs, *])
    | ((with_reducible refine tS3 H (fun h => pack_Num_s h) fun _ f H2 => ?_); clear f; clear H; have H := H2; clear H2; simp (disch := omega) only [go_sem, undef, H.cs, *])
    | ((with_reducible refine tS4 H (fun h => pack_Num_s h) fun _ f H2 => ?_); clear f; clear H; have H := H2; clear H2; simp (disch := omega) only [go_sem, undef, H.cs, *])
    | ((with_reducible refine tS0 H (fun h => pack_RText_s h _ (by omega)) fun _ f H2 => ?_); clear f; clear H; have H := H2; clear H2; simp (disch := omega) only [go_sem, undef, H.cs, *])
    | ((with_reducible refine tS1 H (fun h => pack_RText_s h _ (by omega)) fun _ f H2 => ?_); clear f; clear H; have H := H2; clear H2; simp (disch := omega) only [go_sem, undef, H.cs, *])
    | ((with_reducible refine tS2 H (fun h => pack_RText_s h _ (by omega)) fun _ f H2 => ?_); clear f; clear H; have H := H2; clear H2; simp (disch := omega) only [go_sem, undef, H.cs, *])
    | ((with_reducible refine tS3 H (fun h => pack_RText_s h _ (by omega)) fun _ f H2 => ?_); clear f; clear H; have H := H2; clear H2; simp (disch := omega) only [go_sem, undef, H.cs, *])
    | ((with_reducible refine tS4 H (fun h => pack_RText_s h _ (by omega)) fun _ f H2 => ?_); clear f; clear H; have H := H2; clear H2; simp (disch := omega) only [go_sem, undef, H.cs, *])
    | ((with_reducible refine tQ0 H (fun h => pack_Wrong_s h) fun _ f H2 => ?_); clear f; clear H; have H := H2; clear H2; simp (disch := omega) only [go_sem, undef, H.cs, *])
    | ((with_reducible refine tQ1 H (fun h => pack_Wrong_s h) fun _ f H2 => ?_); clear f; clear H; have H := H2; clear H2; simp (disch := omega) only [go_sem, undef, H.cs, *])
    | ((with_reducible refine tQ2 H (fun h => pack_Wrong_s h) fun _ f H2 => ?_); clear f; clear H; have H := H2; clear H2; simp (disch := omega) only [go_sem, undef, H.cs, *])
    | ((with_reducible refine tQ3 H (fun h => pack_Wrong_s h) fun _ f H2 => ?_); clear f; clear H; have H := H2; clear H2; simp (disch := omega) only [go_sem, undef, H.cs, *])
    | ((with_reducible refine tQ4 H (fun h => pack_Wrong_s h) fun _ f H2 => ?_); clear f; clear H; have H := H2; clear H2; simp (disch := omega) only [go_sem, undef, H.cs, *])
    | ((with_reducible refine tS0 H (fun h => pack_Fail_s h) fun _ f H2 => ?_); clear f; clear H; have H := H2; clear H2; simp (disch := omega) only [go_sem, undef, H.cs, *])
    | ((with_reducible refine tS1 H (fun h => pack_Fail_s h) fun _ f H2 => ?_); clear f; clear H; have H := H2; clear H2; simp (disch := omega) only [go_sem, undef, H.cs, *])
    | ((with_reducible refine tS2 H (fun h => pack_Fail_s h) fun _ f H2 => ?_); clear f; clear H; have H := H2; clear H2; simp (disch := omega) only [go_sem, undef, H.cs, *])
    | ((with_reducible refine tS3 H (fun h => pack_Fail_s h) fun _ f H2 => ?_); clear f; clear H; have H := H2; clear H2; simp (disch := omega) only [go_sem, undef, H.cs, *])
    | ((with_reducible refine tS4 H (fun h => pack_Fail_s h) fun _ f H2 => ?_); clear f; clear H; have H := H2; clear H2; simp (disch := omega) only [go_sem, undef, H.cs, *])
    | ((with_reducible refine callQ H (cmd_Right_s _ _) fun _ f H2 => ?_); clear f; clear H; have H := H2; clear H2; simp (disch := omega) only [go_sem, undef, H.cs, *])
    | ((with_reducible refine gQ_split (fun hq => ?_) (fun hq => ?_)) <;> (try simp only [Bool.not_true, Bool.not_false] at hq) <;> simp (disch := omega) only [go_sem, undef, H.cs, *])
    | ((with_reducible refine condB_split (fun hq => ?_) (fun hq => ?_)) <;> simp (disch := omega) only [go_sem, undef, H.cs, *]))
  all_goals (have hA := H.at 2 rfl; have F := H.fr; clear H h; refine post_intro ⟨?_, F⟩; clear F)
  all_goals (try simp only [decide_eq_true_eq, decide_eq_false_iff_not] at *)
  all_goals first
    | (exfalso; omega)
    | (exfalso; simp_all; done)
    | (simp_all [getCmd, getCmdR, getCmd0, getCmdT, RS.two, RS.chk, RS.bad]; done)
theorem getBallot_s (h : (rdrA t rb a c b s).p m) : MC Try.prog n_letter_getBallot [lpp rb] m fun v M => (v = pv (s.two b).1 ∧ (rdrA t rb a c b (s.two b).2).p M) ∧ Fr m M [rb] := by
  refine letter_getBallot_go (by simp [Try.f33]) ?_
  have H := Hq.one h
  simp (disch := omega) only [go_sem, undef]
  repeat' (first
    | ((with_reducible refine newQ H fun _ _ f H2 => ?_); clear f; clear H; have H := H2; clear H2; simp (disch := omega) only [go_sem, undef, H.cs, *])
    | ((with_reducible refine wrQ0 H fun _ f H2 => ?_); clear f; clear H; have H := H2; clear H2; simp (disch := omega) only [go_sem, undef, H.cs, *])
    | ((with_reducible refine wrQ1 H fun _ f H2 => ?_); clear f; clear H; have H := H2; clear H2; simp (disch := omega) only [go_sem, undef, H.cs, *])
    | ((with_reducible refine wrQ2 H fun _ f H2 => ?_); clear f; clear H; have H := H2; clear H2; simp (disch := omega) only [go_sem, undef, H.cs, *])
    | ((with_reducible refine wrQ3 H fun _ f H2 => ?_); clear f; clear H; have H := H2; clear H2; simp (disch := omega) only [go_sem, undef, H.cs, *])
    | ((with_reducible refine wrQ4 H fun _ f H2 => ?_); clear f; clear H; have H := H2; clear H2; simp (disch := omega) only [go_sem, undef, H.cs, *])
    | ((with_reducible refine wrQ5 H fun _ f H2 => ?_); clear f; clear H; have H := H2; clear H2; simp (disch := omega) only [go_sem, undef, H.cs, *])
    | ((with_reducible refine stwQ0 H ?hl ?h1 fun _ f H2 => ?_); (case hl => rfl); (case h1 => rfl); clear f; clear H; have H := H2; clear H2; simp (disch := omega) only [go_sem, undef, H.cs, *])
    | ((with_reducible refine stwQ1 H ?hl ?h1 fun _ f H2 => ?_); (case hl => rfl); (case h1 => rfl); clear f; clear H; have H := H2; clear H2; simp (disch := omega) only [go_sem, undef, H.cs, *])
    | ((with_reducible refine stwQ2 H ?hl ?h1 fun _ f H2 => ?_); (case hl => rfl); (case h1 => rfl); clear f; clear H; have H := H2; clear H2; simp (disch := omega) only [go_sem, undef, H.cs, *])
    | ((with_reducible refine stwQ3 H ?hl ?h1 fun _ f H2 => ?_); (case hl => rfl); (case h1 => rfl); clear f; clear H; have H := H2; clear H2; simp (disch := omega) only [go_sem, undef, H.cs, *])
    | ((with_reducible refine stwQ4 H ?hl ?h1 fun _ f H2 => ?_); (case hl => rfl); (case h1 => rfl); clear f; clear H; have H := H2; clear H2; simp (disch := omega) only [go_sem, undef, H.cs, *])
    | ((with_reducible refine stwQ5 H ?hl ?h1 fun _ f H2 => ?_); (case hl => rfl); (case h1 => rfl); clear f; clear H; have H := H2; clear H2; simp (disch := omega) only [go_sem, undef, H.cs, *])
    | ((with_reducible refine stQ0 H ?hl ?h1 fun _ f H2 => ?_); (case hl => exact Nat.le_of_ble_eq_true rfl); (case h1 => rfl); clear f; (simp only [go_sem] at H2); clear H; have H := H2; clear H2; simp (disch := omega) only [go_sem, undef, H.cs, *])
    | ((with_reducible refine stQ1 H ?hl ?h1 fun _ f H2 => ?_); (case hl => exact Nat.le_of_ble_eq_true rfl); (case h1 => rfl); clear f; (simp only [go_sem] at H2); clear H; have H := H2; clear H2; simp (disch := omega) only [go_sem, undef, H.cs, *])
    | ((with_reducible refine stQ2 H ?hl ?h1 fun _ f H2 => ?_); (case hl => exact Nat.le_of_ble_eq_true rfl); (case h1 => rfl); clear f; (simp only [go_sem] at H2); clear H; have H := H2; clear H2; simp (disch := omega) only [go_sem, undef, H.cs, *])
    | ((with_reducible refine stQ3 H ?hl ?h1 fun _ f H2 => ?_); (case hl => exact Nat.le_of_ble_eq_true rfl); (case h1 => rfl); clear f; (simp only [go_sem] at H2); clear H; have H := H2; clear H2; simp (disch := omega) only [go_sem, undef, H.cs, *])
    | ((with_reducible refine tS0 H (fun h => pack_Num_s h) fun _ f H2 => ?_); clear f; clear H; have H := H2; clear H2; simp (disch := omega) only [go_sem, undef, H.cs, *])
    | ((with_reducible refine tS1 H (fun h => pack_Num_s h) fun _ f H2 => ?_); clear f; clear H; have H := H2; clear H2; simp (disch := omega) only [go_sem, undef, H.cs, *])
    | ((with_reducible refine tS2 H (fun h => pack_Num_s h) fun _ f H2 => ?_); clear f; clear H; have H := H2; clear H2; simp (disch := omega) only [go_sem, undef, H.cs, *])
    | ((with_reducible refine tS3 H (fun h => pack_Num_s h) fun _ f H2 => ?_); clear f; clear H; have H := H2; clear H2; simp (disch := omega) only [go_sem, undef, H.cs, *])
    | ((with_reducible refine tS4 H (fun h => pack_Num_s h) fun _ f H2 => ?_); clear f; clear H; have H := H2; clear H2; simp (disch := omega) only [go_sem, undef, H.cs, *])
    | ((with_reducible refine gQ_split (fun hq => ?_) (fun hq => ?_)) <;> (try simp only [Bool.not_true, Bool.not_false] at hq) <;> simp (disch := omega) only [go_sem, undef, H.cs, *])
    | ((with_reducible refine condB_split (fun hq => ?_) (fun hq => ?_)) <;> simp (disch := omega) only [go_sem, undef, H.cs, *]))
  exact ⟨⟨rfl, H.at 1 rfl⟩, H.fr⟩
theorem deps_Right_b (a : Att) (m : Mem) : MC Try.prog n_deps_Right [a.v] m fun v m' => v = .bool a.ok ∧ Fr m m' [] := deps_Right_s a m
theorem deps_Get_s (h : (rdrA t rb a c b s).p m) : MC Try.prog n_deps_Get [lpp rb] m fun v M => (v = (getAtt b s).1.v ∧ (rdrA t rb a c b (getAtt b s).2).p M) ∧ Fr m M [rb] := by
  refine deps_Get_go (by simp [Try.f33]) ?_
  have H := Hq.one h
  simp (disch := omega) only [go_sem, undef]
  refine newQ H fun b2 _ _ H => ?_
  simp (disch := omega) only [go_sem, undef]
  refine tS1 H (fun h => pack_Num_s h) fun _ _ H => ?_
  simp (disch := omega) only [go_sem, undef]
  refine newQ H fun b3 _ _ H => ?_
  simp (disch := omega) only [go_sem, undef]
  refine stwQ0 H rfl rfl fun _ _ H => ?_
  simp (disch := omega) only [go_sem, undef]
  refine loopQ_intro (fun n E m' => ∃ k, k ≤ 7 ∧ n = 7 - k ∧ E = [(0, lpp rb), (2, .pointer (some ⟨b2, 0, none⟩)), (3, .pointer (some ⟨b3, 0, none⟩)), (8, .int .i64 (k : Nat))] ∧
    Hq m m' [rb] [cellA b3 (.cells (Att.mk (s.num b).1 (depsN b (s.num b).2 k).1).cs.toArray T_api_Attr (0, 0)), cellA b2 (.cells Att.zero.cs.toArray T_api_Attr (0, 0)), rdrA t rb a c b (depsN b (s.num b).2 k).2]) 7 rfl ⟨0, by omega, rfl, rfl, H⟩ ?_
  clear H
  rintro n E m' ⟨k, hk, rfl, rfl, H⟩
  simp (disch := omega) only [go_sem, undef]
  refine condB_dec (fun h1 => ?_) (fun h1 => ?_)
  · have h2 : k < 7 := by omega
    simp (disch := omega) only [go_sem, undef]
    refine tS2 H (fun h => pack_Num_s h) fun _ _ H => ?_
    simp (disch := omega) only [go_sem, undef, H.cs]
    refine wrQ0 H fun _ _ H => ?_
    simp (disch := omega) only [go_sem, undef]
    exact handN_intro (7 - (k + 1)) (by omega) ⟨k + 1, by omega, rfl, rfl, H⟩
  · have h2 : k = 7 := by omega
    subst h2
    simp (disch := omega) only [go_sem, undef]
    repeat' (first
      | ((with_reducible refine newQ H fun _ _ f H2 => ?_); clear f; clear H; have H := H2; clear H2; simp (disch := omega) only [go_sem, undef, H.cs, *])
      | ((with_reducible refine wrQ0 H fun _ f H2 => ?_); clear f; clear H; have H := H2; clear H2; simp (disch := omega) only [go_sem, undef, H.cs, *])
      | ((with_reducible refine wrQ1 H fun _ f H2 => ?_); clear f; clear H; have H := H2; clear H2; simp (disch := omega) only [go_sem, undef, H.cs, *])
      | ((with_reducible refine wrQ2 H fun _ f H2 => ?_); clear f; clear H; have H := H2; clear H2; simp (disch := omega) only [go_sem, undef, H.cs, *])
      | ((with_reducible refine wrQ3 H fun _ f H2 => ?_); clear f; clear H; have H := H2; clear H2; simp (disch := omega) only [go_sem, undef, H.cs, *])
      | ((with_reducible refine wrQ4 H fun _ f H2 => ?_); clear f; clear H; have H := H2; clear H2; simp (disch := omega) only [go_sem, undef, H.cs, *])
      | ((with_reducible refine wrQ5 H fun _ f H2 => ?_); clear f; clear H; have H := H2; clear H2; simp (disch := omega) only [go_sem, undef, H.cs, *])
      | ((with_reducible refine stwQ0 H ?hl ?h1 fun _ f H2 => ?_); (case hl => rfl); (case h1 => rfl); clear f; clear H; have H := H2; clear H2; simp (disch := omega) only [go_sem, undef, H.cs, *])
      | ((with_reducible refine stwQ1 H ?hl ?h1 fun _ f H2 => ?_); (case hl => rfl); (case h1 => rfl); clear f; clear H; have H := H2; clear H2; simp (disch := omega) only [go_sem, undef, H.cs, *])
      | ((with_reducible refine stwQ2 H ?hl ?h1 fun _ f H2 => ?_); (case hl => rfl); (case h1 => rfl); clear f; clear H; have H := H2; clear H2; simp (disch := omega) only [go_sem, undef, H.cs, *])
      | ((with_reducible refine stwQ3 H ?hl ?h1 fun _ f H2 => ?_); (case hl => rfl); (case h1 => rfl); clear f; clear H; have H := H2; clear H2; simp (disch := omega) only [go_sem, undef, H.cs, *])
      | ((with_reducible refine stwQ4 H ?hl ?h1 fun _ f H2 => ?_); (case hl => rfl); (case h1 => rfl); clear f; clear H; have H := H2; clear H2; simp (disch := omega) only [go_sem, undef, H.cs, *])
      | ((with_reducible refine stwQ5 H ?hl ?h1 fun _ f H2 => ?_); (case hl => rfl); (case h1 => rfl); clear f; clear H; have H := H2; clear H2; simp (disch := omega) only [go_sem, undef, H.cs, *])
      | ((with_reducible refine stQ0 H ?hl ?h1 fun _ f H2 => ?_); (case hl => exact Nat.le_of_ble_eq_true rfl); (case h1 => rfl); clear f; (simp only [go_sem] at H2); clear H; have H := H2; clear H2; simp (disch := omega) only [go_sem, undef, H.cs, *])
      | ((with_reducible refine stQ1 H ?hl ?h1 fun _ f H2 => ?_); (case hl => exact Nat.le_of_ble_eq_true rfl); (case h1 => rfl); clear f; (simp only [go_sem] at H2); clear H; have H := H2; clear H2; simp (disch := omega) only [go_sem, undef, H.cs, *])
      | ((with_reducible refine stQ2 H ?hl ?h1 fun _ f H2 => ?_); (case hl => exact Nat.le_of_ble_eq_true rfl); (case h1 => rfl); clear f; (simp only [go_sem] at H2); clear H; have H := H2; clear H2; simp (disch := omega) only [go_sem, undef, H.cs, *])
      | ((with_reducible refine stQ3 H ?hl ?h1 fun _ f H2 => ?_); (case hl => exact Nat.le_of_ble_eq_true rfl); (case h1 => rfl); clear f; (simp only [go_sem] at H2); clear H; have H := H2; clear H2; simp (disch := omega) only [go_sem, undef, H.cs, *])
      | ((with_reducible refine tQ0 H (fun h => pack_Wrong_s h) fun _ f H2 => ?_); clear f; clear H; have H := H2; clear H2; simp (disch := omega) only [go_sem, undef, H.cs, *])
      | ((with_reducible refine tQ1 H (fun h => pack_Wrong_s h) fun _ f H2 => ?_); clear f; clear H; have H := H2; clear H2; simp (disch := omega) only [go_sem, undef, H.cs, *])
      | ((with_reducible refine tQ2 H (fun h => pack_Wrong_s h) fun _ f H2 => ?_); clear f; clear H; have H := H2; clear H2; simp (disch := omega) only [go_sem, undef, H.cs, *])
      | ((with_reducible refine tQ3 H (fun h => pack_Wrong_s h) fun _ f H2 => ?_); clear f; clear H; have H := H2; clear H2; simp (disch := omega) only [go_sem, undef, H.cs, *])
      | ((with_reducible refine tQ4 H (fun h => pack_Wrong_s h) fun _ f H2 => ?_); clear f; clear H; have H := H2; clear H2; simp (disch := omega) only [go_sem, undef, H.cs, *])
      | ((with_reducible refine tS0 H (fun h => pack_Fail_s h) fun _ f H2 => ?_); clear f; clear H; have H := H2; clear H2; simp (disch := omega) only [go_sem, undef, H.cs, *])
      | ((with_reducible refine tS1 H (fun h => pack_Fail_s h) fun _ f H2 => ?_); clear f; clear H; have H := H2; clear H2; simp (disch := omega) only [go_sem, undef, H.cs, *])
      | ((with_reducible refine tS2 H (fun h => pack_Fail_s h) fun _ f H2 => ?_); clear f; clear H; have H := H2; clear H2; simp (disch := omega) only [go_sem, undef, H.cs, *])
      | ((with_reducible refine tS3 H (fun h => pack_Fail_s h) fun _ f H2 => ?_); clear f; clear H; have H := H2; clear H2; simp (disch := omega) only [go_sem, undef, H.cs, *])
      | ((with_reducible refine tS4 H (fun h => pack_Fail_s h) fun _ f H2 => ?_); clear f; clear H; have H := H2; clear H2; simp (disch := omega) only [go_sem, undef, H.cs, *])
      | ((with_reducible refine callQ H (deps_Right_b _ _) fun _ f H2 => ?_); clear f; clear H; have H := H2; clear H2; simp (disch := omega) only [go_sem, undef, H.cs, *])
      | ((with_reducible refine gQ_split (fun hq => ?_) (fun hq => ?_)) <;> (try simp only [Bool.not_true, Bool.not_false] at hq) <;> simp (disch := omega) only [go_sem, undef, H.cs, *])
      | ((with_reducible refine condB_split (fun hq => ?_) (fun hq => ?_)) <;> simp (disch := omega) only [go_sem, undef, H.cs, *]))
    all_goals (have hA := H.at 2 rfl; have F := H.fr; clear H h; refine post_intro ⟨?_, F⟩; clear F)
    all_goals (try simp only [decide_eq_true_eq, decide_eq_false_iff_not] at *)
    all_goals first
      | (exfalso; omega)
      | (exfalso; simp_all; done)
      | (simp_all [getAtt, getAttR, getAtt0, RS.chk, RS.bad]; done)
set_option maxHeartbeats 2000000 in
theorem letter_GetCell_s (h : (rdrA t rb a c b s).p m) : MC Try.prog n_letter_GetCell [lpp rb] m fun v M => (v = (getCel b s).1.v ∧ (rdrA t rb a c b (getCel b s).2).p M) ∧ Fr m M [rb] := by
  refine letter_GetCell_go (by simp [Try.f33]) ?_
  have H := Hq.one h
  simp (disch := omega) only [go_sem, undef]
  repeat' (first
    | ((with_reducible refine newQ H fun _ _ f H2 => ?_); clear f; clear H; have H := H2; clear H2; simp (disch := omega) only [go_sem, undef, H.cs, *])
    | ((with_reducible refine wrQ0 H fun _ f H2 => ?_); clear f; clear H; have H := H2; clear H2; simp (disch := omega) only [go_sem, undef, H.cs, *])
    | ((with_reducible refine wrQ1 H fun _ f H2 => ?_); clear f; clear H; have H := H2; clear H2; simp (disch := omega) only [go_sem, undef, H.cs, *])
    | ((with_reducible refine wrQ2 H fun _ f H2 => ?_); clear f; clear H; have H := H2; clear H2; simp (disch := omega) only [go_sem, undef, H.cs, *])
    | ((with_reducible refine wrQ3 H fun _ f H2 => ?_); clear f; clear H; have H := H2; clear H2; simp (disch := omega) only [go_sem, undef, H.cs, *])
    | ((with_reducible refine wrQ4 H fun _ f H2 => ?_); clear f; clear H; have H := H2; clear H2; simp (disch := omega) only [go_sem, undef, H.cs, *])
    | ((with_reducible refine wrQ5 H fun _ f H2 => ?_); clear f; clear H; have H := H2; clear H2; simp (disch := omega) only [go_sem, undef, H.cs, *])
    | ((with_reducible refine stwQ0 H ?hl ?h1 fun _ f H2 => ?_); (case hl => rfl); (case h1 => rfl); clear f; clear H; have H := H2; clear H2; simp (disch := omega) only [go_sem, undef, H.cs, *])
    | ((with_reducible refine stwQ1 H ?hl ?h1 fun _ f H2 => ?_); (case hl => rfl); (case h1 => rfl); clear f; clear H; have H := H2; clear H2; simp (disch := omega) only [go_sem, undef, H.cs, *])
    | ((with_reducible refine stwQ2 H ?hl ?h1 fun _ f H2 => ?_); (case hl => rfl); (case h1 => rfl); clear f; clear H; have H := H2; clear H2; simp (disch := omega) only [go_sem, undef, H.cs, *])
    | ((with_reducible refine stwQ3 H ?hl ?h1 fun _ f H2 => ?_); (case hl => rfl); (case h1 => rfl); clear f; clear H; have H := H2; clear H2; simp (disch := omega) only [go_sem, undef, H.cs, *])
    | ((with_reducible refine stwQ4 H ?hl ?h1 fun _ f H2 => ?_); (case hl => rfl); (case h1 => rfl); clear f; clear H; have H := H2; clear H2; simp (disch := omega) only [go_sem, undef, H.cs, *])
    | ((with_reducible refine stwQ5 H ?hl ?h1 fun _ f H2 => ?_); (case hl => rfl); (case h1 => rfl); clear f; clear H; have H := H2; clear H2; simp (disch := omega) only [go_sem, undef, H.cs, *])
    | ((with_reducible refine stQ0 H ?hl ?h1 fun _ f H2 => ?_); (case hl => exact Nat.le_of_ble_eq_true rfl); (case h1 => rfl); clear f; (simp only [go_sem] at H2); clear H; have H := H2; clear H2; simp (disch := omega) only [go_sem, undef, H.cs, *])
    | ((with_reducible refine stQ1 H ?hl ?h1 fun _ f H2 => ?_); (case hl => exact Nat.le_of_ble_eq_true rfl); (case h1 => rfl); clear f; (simp only [go_sem] at H2); clear H; have H := H2; clear H2; simp (disch := omega) only [go_sem, undef, H.cs, *])
    | ((with_reducible refine stQ2 H ?hl ?h1 fun _ f H2 => ?_); (case hl => exact Nat.le_of_ble_eq_true rfl); (case h1 => rfl); clear f; (simp only [go_sem] at H2); clear H; have H := H2; clear H2; simp (disch := omega) only [go_sem, undef, H.cs, *])
    | ((with_reducible refine stQ3 H ?hl ?h1 fun _ f H2 => ?_); (case hl => exact Nat.le_of_ble_eq_true rfl); (case h1 => rfl); clear f; (simp only [go_sem] at H2); clear H; have H := H2; clear H2; simp (disch := omega) only [go_sem, undef, H.cs, *])
    | ((with_reducible refine tS0 H (fun h => pack_Num_s h) fun _ f H2 => ?_); clear f; clear H; have H := H2; clear H2; simp (disch := omega) only [go_sem, undef, H.cs, *])
    | ((with_reducible refine tS1 H (fun h => pack_Num_s h) fun _ f H2 => ?_); clear f; clear H; have H := H2; clear H2; simp (disch := omega) only [go_sem, undef, H.cs, *])
    | ((with_reducible refine tS2 H (fun h => pack_Num_s h) fun _ f H2 => ?_); clear f; clear H; have H := H2; clear H2; simp (disch := omega) only [go_sem, undef, H.cs, *])
    | ((with_reducible refine tS3 H (fun h => pack_Num_s h) fun _ f H2 => ?_); clear f; clear H; have H := H2; clear H2; simp (disch := omega) only [go_sem, undef, H.cs, *])
    | ((with_reducible refine tS4 H (fun h => pack_Num_s h) fun _ f H2 => ?_); clear f; clear H; have H := H2; clear H2; simp (disch := omega) only [go_sem, undef, H.cs, *])
    | ((with_reducible refine tS0 H (fun h => getBallot_s h) fun _ f H2 => ?_); clear f; clear H; have H := H2; clear H2; simp (disch := omega) only [go_sem, undef, H.cs, *])
    | ((with_reducible refine tS1 H (fun h => getBallot_s h) fun _ f H2 => ?_); clear f; clear H; have H := H2; clear H2; simp (disch := omega) only [go_sem, undef, H.cs, *])
    | ((with_reducible refine tS2 H (fun h => getBallot_s h) fun _ f H2 => ?_); clear f; clear H; have H := H2; clear H2; simp (disch := omega) only [go_sem, undef, H.cs, *])
    | ((with_reducible refine tS3 H (fun h => getBallot_s h) fun _ f H2 => ?_); clear f; clear H; have H := H2; clear H2; simp (disch := omega) only [go_sem, undef, H.cs, *])
    | ((with_reducible refine tS4 H (fun h => getBallot_s h) fun _ f H2 => ?_); clear f; clear H; have H := H2; clear H2; simp (disch := omega) only [go_sem, undef, H.cs, *])
    | ((with_reducible refine tS0 H (fun h => cmd_Get_s h) fun _ f H2 => ?_); clear f; clear H; have H := H2; clear H2; simp (disch := omega) only [go_sem, undef, H.cs, *])
    | ((with_reducible refine tS1 H (fun h => cmd_Get_s h) fun _ f H2 => ?_); clear f; clear H; have H := H2; clear H2; simp (disch := omega) only [go_sem, undef, H.cs, *])
    | ((with_reducible refine tS2 H (fun h => cmd_Get_s h) fun _ f H2 => ?_); clear f; clear H; have H := H2; clear H2; simp (disch := omega) only [go_sem, undef, H.cs, *])
    | ((with_reducible refine tS3 H (fun h => cmd_Get_s h) fun _ f H2 => ?_); clear f; clear H; have H := H2; clear H2; simp (disch := omega) only [go_sem, undef, H.cs, *])
    | ((with_reducible refine tS4 H (fun h => cmd_Get_s h) fun _ f H2 => ?_); clear f; clear H; have H := H2; clear H2; simp (disch := omega) only [go_sem, undef, H.cs, *])
    | ((with_reducible refine tS0 H (fun h => deps_Get_s h) fun _ f H2 => ?_); clear f; clear H; have H := H2; clear H2; simp (disch := omega) only [go_sem, undef, H.cs, *])
    | ((with_reducible refine tS1 H (fun h => deps_Get_s h) fun _ f H2 => ?_); clear f; clear H; have H := H2; clear H2; simp (disch := omega) only [go_sem, undef, H.cs, *])
    | ((with_reducible refine tS2 H (fun h => deps_Get_s h) fun _ f H2 => ?_); clear f; clear H; have H := H2; clear H2; simp (disch := omega) only [go_sem, undef, H.cs, *])
    | ((with_reducible refine tS3 H (fun h => deps_Get_s h) fun _ f H2 => ?_); clear f; clear H; have H := H2; clear H2; simp (disch := omega) only [go_sem, undef, H.cs, *])
    | ((with_reducible refine tS4 H (fun h => deps_Get_s h) fun _ f H2 => ?_); clear f; clear H; have H := H2; clear H2; simp (disch := omega) only [go_sem, undef, H.cs, *])
    | ((with_reducible refine tS0 H (fun h => pack_RFlag_s h) fun _ f H2 => ?_); clear f; clear H; have H := H2; clear H2; simp (disch := omega) only [go_sem, undef, H.cs, *])
    | ((with_reducible refine tS1 H (fun h => pack_RFlag_s h) fun _ f H2 => ?_); clear f; clear H; have H := H2; clear H2; simp (disch := omega) only [go_sem, undef, H.cs, *])
    | ((with_reducible refine tS2 H (fun h => pack_RFlag_s h) fun _ f H2 => ?_); clear f; clear H; have H := H2; clear H2; simp (disch := omega) only [go_sem, undef, H.cs, *])
    | ((with_reducible refine tS3 H (fun h => pack_RFlag_s h) fun _ f H2 => ?_); clear f; clear H; have H := H2; clear H2; simp (disch := omega) only [go_sem, undef, H.cs, *])
    | ((with_reducible refine tS4 H (fun h => pack_RFlag_s h) fun _ f H2 => ?_); clear f; clear H; have H := H2; clear H2; simp (disch := omega) only [go_sem, undef, H.cs, *])
    | ((with_reducible refine tQ0 H (fun h => pack_Wrong_s h) fun _ f H2 => ?_); clear f; clear H; have H := H2; clear H2; simp (disch := omega) only [go_sem, undef, H.cs, *])
    | ((with_reducible refine tQ1 H (fun h => pack_Wrong_s h) fun _ f H2 => ?_); clear f; clear H; have H := H2; clear H2; simp (disch := omega) only [go_sem, undef, H.cs, *])
    | ((with_reducible refine tQ2 H (fun h => pack_Wrong_s h) fun _ f H2 => ?_); clear f; clear H; have H := H2; clear H2; simp (disch := omega) only [go_sem, undef, H.cs, *])
    | ((with_reducible refine tQ3 H (fun h => pack_Wrong_s h) fun _ f H2 => ?_); clear f; clear H; have H := H2; clear H2; simp (disch := omega) only [go_sem, undef, H.cs, *])
    | ((with_reducible refine tQ4 H (fun h => pack_Wrong_s h) fun _ f H2 => ?_); clear f; clear H; have H := H2; clear H2; simp (disch := omega) only [go_sem, undef, H.cs, *])
    | ((with_reducible refine tS0 H (fun h => pack_Fail_s h) fun _ f H2 => ?_); clear f; clear H; have H := H2; clear H2; simp (disch := omega) only [go_sem, undef, H.cs, *])
    | ((with_reducible refine tS1 H (fun h => pack_Fail_s h) fun _ f H2 => ?_); clear f; clear H; have H := H2; clear H2; simp (disch := omega) only [go_sem, undef, H.cs, *])
    | ((with_reducible refine tS2 H (fun h => pack_Fail_s h) fun _ f H2 => ?_); clear f; clear H; have H := H2; clear H2; simp (disch := omega) only [go_sem, undef, H.cs, *])
    | ((with_reducible refine tS3 H (fun h => pack_Fail_s h) fun _ f H2 => ?_); clear f; clear H; have H := H2; clear H2; simp (disch := omega) only [go_sem, undef, H.cs, *])
    | ((with_reducible refine tS4 H (fun h => pack_Fail_s h) fun _ f H2 => ?_); clear f; clear H; have H := H2; clear H2; simp (disch := omega) only [go_sem, undef, H.cs, *])
    | ((with_reducible refine callQ H (letter_RightCell_s _ _) fun _ f H2 => ?_); clear f; clear H; have H := H2; clear H2; simp (disch := omega) only [go_sem, undef, H.cs, *])
    | ((with_reducible refine gQ_split (fun hq => ?_) (fun hq => ?_)) <;> (try simp only [Bool.not_true, Bool.not_false] at hq) <;> simp (disch := omega) only [go_sem, undef, H.cs, *])
    | ((with_reducible refine condB_split (fun hq => ?_) (fun hq => ?_)) <;> simp (disch := omega) only [go_sem, undef, H.cs, *]))
  all_goals (have hA := H.at 2 rfl; have F := H.fr; clear H h; refine post_intro ⟨?_, F⟩; clear F)
  all_goals (try simp only [decide_eq_true_eq, decide_eq_false_iff_not] at *)
  all_goals first
    | (exfalso; omega)
    | (exfalso; simp_all; done)
    | (simp_all [getCel, celH, celP, endCel, RS.chk, RS.bad]; done)
end Go.Fw
