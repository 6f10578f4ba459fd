import Derived.Test.YthmfahaebogibaaPl
import Derived.Test.YthmfahaebogibaaFxB
import Derived.Test.YthmfahaebogibaaFxA
import Derived.Test.YthmfahaebogibaaCd
import Derived.Test.YthmfahaebogibaaCdC
import Derived.Test.YthmfahaebogibaaCdL
import Derived.Test.YthmfahaebogibaaFxSort
import Derived.Test.YthmfahaebogibaaGr
set_option linter.unusedVariables false
set_option linter.unusedSimpArgs false
set_option linter.unusedSimpArgs false
set_option linter.unusedVariables false
namespace Go.Fw
open Go.Proofs
theorem inst_Right_s (p : Int × Int) (m : Mem) : MC Try.prog n_inst_Right [pv p] m fun v m' => v = .bool (decide (rightI p)) ∧ Fr m m' [] := by
  refine inst_Right_go (by simp [Try.f33]) ?_
  have H := Hp.refl m []
  simp (disch := omega) only [go_sem, undef]
  repeat' (first
    | (refine new_H H fun _ _ _ _ H => ?_; simp (disch := omega) only [go_sem, undef, H.hs, *])
    | (refine gQ_split (fun hq => ?_) (fun hq => ?_) <;> (try simp only [Bool.not_true, Bool.not_false] at hq) <;> simp (disch := omega) only [go_sem, undef, H.hs, *])
    | (refine condB_split (fun hq => ?_) (fun hq => ?_) <;> simp (disch := omega) only [go_sem, undef, H.hs, *])
    | (refine wr0 H fun _ _ H => ?_; simp (disch := omega) only [go_sem, undef, H.hs, *])
    | (refine wr1 H fun _ _ H => ?_; simp (disch := omega) only [go_sem, undef, H.hs, *])
    | (refine wr2 H fun _ _ H => ?_; simp (disch := omega) only [go_sem, undef, H.hs, *])
    | (refine wr3 H fun _ _ H => ?_; simp (disch := omega) only [go_sem, undef, H.hs, *])
    | (refine stw0 H rfl rfl fun _ _ H => ?_; simp (disch := omega) only [go_sem, undef, H.hs, *])
    | (refine stw1 H rfl rfl fun _ _ H => ?_; simp (disch := omega) only [go_sem, undef, H.hs, *]))
  all_goals (try simp only [decide_eq_true_eq, decide_eq_false_iff_not] at *)
  all_goals exact ⟨by first | rfl | (simp only [Value.bool.injEq, decide_eq_true_eq, eq_comm (a := true), eq_comm (a := false), decide_eq_false_iff_not, decide_eq_decide]; grind []), H.fr⟩
theorem inst_Less_s (p q : Int × Int) (m : Mem) : MC Try.prog n_inst_Less [pv p, pv q] m fun v m' => v = .bool (decide (lt2 p q)) ∧ Fr m m' [] := by
  refine inst_Less_go (by simp [Try.f33]) ?_
  have H := Hp.refl m []
  simp (disch := omega) only [go_sem, undef]
  repeat' (first
    | (refine new_H H fun _ _ _ _ H => ?_; simp (disch := omega) only [go_sem, undef, H.hs, *])
    | (refine gQ_split (fun hq => ?_) (fun hq => ?_) <;> (try simp only [Bool.not_true, Bool.not_false] at hq) <;> simp (disch := omega) only [go_sem, undef, H.hs, *])
    | (refine condB_split (fun hq => ?_) (fun hq => ?_) <;> simp (disch := omega) only [go_sem, undef, H.hs, *])
    | (refine wr0 H fun _ _ H => ?_; simp (disch := omega) only [go_sem, undef, H.hs, *])
    | (refine wr1 H fun _ _ H => ?_; simp (disch := omega) only [go_sem, undef, H.hs, *])
    | (refine wr2 H fun _ _ H => ?_; simp (disch := omega) only [go_sem, undef, H.hs, *])
    | (refine wr3 H fun _ _ H => ?_; simp (disch := omega) only [go_sem, undef, H.hs, *])
    | (refine stw0 H rfl rfl fun _ _ H => ?_; simp (disch := omega) only [go_sem, undef, H.hs, *])
    | (refine stw1 H rfl rfl fun _ _ H => ?_; simp (disch := omega) only [go_sem, undef, H.hs, *]))
  all_goals (try simp only [decide_eq_true_eq, decide_eq_false_iff_not] at *)
  all_goals exact ⟨by first | rfl | (simp only [Value.bool.injEq, decide_eq_true_eq, eq_comm (a := true), eq_comm (a := false), decide_eq_false_iff_not, decide_eq_decide]; grind []), H.fr⟩
theorem ref1_Less_s (p q : Int × Int) (m : Mem) : MC Try.prog n_ref1_Less [pv p, pv q] m fun v m' => v = .bool (decide (lt2 p q)) ∧ Fr m m' [] := by
  refine ref1_Less_go (by simp [Try.f33]) ?_
  have H := Hp.refl m []
  simp (disch := omega) only [go_sem, undef]
  repeat' (first
    | (refine new_H H fun _ _ _ _ H => ?_; simp (disch := omega) only [go_sem, undef, H.hs, *])
    | (refine gQ_split (fun hq => ?_) (fun hq => ?_) <;> (try simp only [Bool.not_true, Bool.not_false] at hq) <;> simp (disch := omega) only [go_sem, undef, H.hs, *])
    | (refine condB_split (fun hq => ?_) (fun hq => ?_) <;> simp (disch := omega) only [go_sem, undef, H.hs, *])
    | (refine wr0 H fun _ _ H => ?_; simp (disch := omega) only [go_sem, undef, H.hs, *])
    | (refine wr1 H fun _ _ H => ?_; simp (disch := omega) only [go_sem, undef, H.hs, *])
    | (refine wr2 H fun _ _ H => ?_; simp (disch := omega) only [go_sem, undef, H.hs, *])
    | (refine wr3 H fun _ _ H => ?_; simp (disch := omega) only [go_sem, undef, H.hs, *])
    | (refine stw0 H rfl rfl fun _ _ H => ?_; simp (disch := omega) only [go_sem, undef, H.hs, *])
    | (refine stw1 H rfl rfl fun _ _ H => ?_; simp (disch := omega) only [go_sem, undef, H.hs, *]))
  all_goals (try simp only [decide_eq_true_eq, decide_eq_false_iff_not] at *)
  all_goals exact ⟨by first | rfl | (simp only [Value.bool.injEq, decide_eq_true_eq, eq_comm (a := true), eq_comm (a := false), decide_eq_false_iff_not, decide_eq_decide]; grind []), H.fr⟩
theorem less_c (f : Nat) : True := trivial
theorem exec_do_c1_s (x y : Int × Int) (m : Mem) : MC Try.prog n_exec_plan_do_c1 [pv x, pv y] m fun v m' => v = .int .i64 (cf2 x y) ∧ Fr m m' [] := by
  refine exec_plan_do_c1_go (by simp [Try.f33]) ?_
  have H := Hq.refl m []
  simp (disch := omega) only [go_sem, undef]
  repeat' (first
    | ((with_reducible refine newQ H fun _ _ f H2 => ?_); clear f; clear H; have H := H2; clear H2; simp (disch := omega) only [go_sem, undef, H.cs, *])
    | ((with_reducible refine wrQ0 H fun _ f H2 => ?_); clear f; clear H; have H := H2; clear H2; simp (disch := omega) only [go_sem, undef, H.cs, *])
    | ((with_reducible refine wrQ1 H fun _ f H2 => ?_); clear f; clear H; have H := H2; clear H2; simp (disch := omega) only [go_sem, undef, H.cs, *])
    | ((with_reducible refine wrQ2 H fun _ f H2 => ?_); clear f; clear H; have H := H2; clear H2; simp (disch := omega) only [go_sem, undef, H.cs, *])
    | ((with_reducible refine wrQ3 H fun _ f H2 => ?_); clear f; clear H; have H := H2; clear H2; simp (disch := omega) only [go_sem, undef, H.cs, *])
    | ((with_reducible refine wrQ4 H fun _ f H2 => ?_); clear f; clear H; have H := H2; clear H2; simp (disch := omega) only [go_sem, undef, H.cs, *])
    | ((with_reducible refine wrQ5 H fun _ f H2 => ?_); clear f; clear H; have H := H2; clear H2; simp (disch := omega) only [go_sem, undef, H.cs, *])
    | ((with_reducible refine stwQ0 H ?hl ?h1 fun _ f H2 => ?_); (case hl => rfl); (case h1 => rfl); clear f; clear H; have H := H2; clear H2; simp (disch := omega) only [go_sem, undef, H.cs, *])
    | ((with_reducible refine stwQ1 H ?hl ?h1 fun _ f H2 => ?_); (case hl => rfl); (case h1 => rfl); clear f; clear H; have H := H2; clear H2; simp (disch := omega) only [go_sem, undef, H.cs, *])
    | ((with_reducible refine stwQ2 H ?hl ?h1 fun _ f H2 => ?_); (case hl => rfl); (case h1 => rfl); clear f; clear H; have H := H2; clear H2; simp (disch := omega) only [go_sem, undef, H.cs, *])
    | ((with_reducible refine stwQ3 H ?hl ?h1 fun _ f H2 => ?_); (case hl => rfl); (case h1 => rfl); clear f; clear H; have H := H2; clear H2; simp (disch := omega) only [go_sem, undef, H.cs, *])
    | ((with_reducible refine stwQ4 H ?hl ?h1 fun _ f H2 => ?_); (case hl => rfl); (case h1 => rfl); clear f; clear H; have H := H2; clear H2; simp (disch := omega) only [go_sem, undef, H.cs, *])
    | ((with_reducible refine stwQ5 H ?hl ?h1 fun _ f H2 => ?_); (case hl => rfl); (case h1 => rfl); clear f; clear H; have H := H2; clear H2; simp (disch := omega) only [go_sem, undef, H.cs, *])
    | ((with_reducible refine stQ0 H ?hl ?h1 fun _ f H2 => ?_); (case hl => exact Nat.le_of_ble_eq_true rfl); (case h1 => rfl); clear f; (simp only [go_sem] at H2); clear H; have H := H2; clear H2; simp (disch := omega) only [go_sem, undef, H.cs, *])
    | ((with_reducible refine stQ1 H ?hl ?h1 fun _ f H2 => ?_); (case hl => exact Nat.le_of_ble_eq_true rfl); (case h1 => rfl); clear f; (simp only [go_sem] at H2); clear H; have H := H2; clear H2; simp (disch := omega) only [go_sem, undef, H.cs, *])
    | ((with_reducible refine stQ2 H ?hl ?h1 fun _ f H2 => ?_); (case hl => exact Nat.le_of_ble_eq_true rfl); (case h1 => rfl); clear f; (simp only [go_sem] at H2); clear H; have H := H2; clear H2; simp (disch := omega) only [go_sem, undef, H.cs, *])
    | ((with_reducible refine stQ3 H ?hl ?h1 fun _ f H2 => ?_); (case hl => exact Nat.le_of_ble_eq_true rfl); (case h1 => rfl); clear f; (simp only [go_sem] at H2); clear H; have H := H2; clear H2; simp (disch := omega) only [go_sem, undef, H.cs, *])
    | ((with_reducible refine callQ H (inst_Less_s _ _ _) fun _ f H2 => ?_); clear f; clear H; have H := H2; clear H2; simp (disch := omega) only [go_sem, undef, H.cs, *])
    | ((with_reducible refine gQ_split (fun hq => ?_) (fun hq => ?_)) <;> (try simp only [Bool.not_true, Bool.not_false] at hq) <;> simp (disch := omega) only [go_sem, undef, H.cs, *])
    | ((with_reducible refine condB_split (fun hq => ?_) (fun hq => ?_)) <;> simp (disch := omega) only [go_sem, undef, H.cs, *]))
  all_goals exact ⟨by simp_all [cf2], H.fr⟩
theorem inst_List_c1_s (x y : Int × Int) (m : Mem) : MC Try.prog n_inst_Set_List_c1 [pv x, pv y] m fun v m' => v = .int .i64 (cf2 x y) ∧ Fr m m' [] := by
  refine inst_Set_List_c1_go (by simp [Try.f33]) ?_
  have H := Hq.refl m []
  simp (disch := omega) only [go_sem, undef]
  repeat' (first
    | ((with_reducible refine newQ H fun _ _ f H2 => ?_); clear f; clear H; have H := H2; clear H2; simp (disch := omega) only [go_sem, undef, H.cs, *])
    | ((with_reducible refine wrQ0 H fun _ f H2 => ?_); clear f; clear H; have H := H2; clear H2; simp (disch := omega) only [go_sem, undef, H.cs, *])
    | ((with_reducible refine wrQ1 H fun _ f H2 => ?_); clear f; clear H; have H := H2; clear H2; simp (disch := omega) only [go_sem, undef, H.cs, *])
    | ((with_reducible refine wrQ2 H fun _ f H2 => ?_); clear f; clear H; have H := H2; clear H2; simp (disch := omega) only [go_sem, undef, H.cs, *])
    | ((with_reducible refine wrQ3 H fun _ f H2 => ?_); clear f; clear H; have H := H2; clear H2; simp (disch := omega) only [go_sem, undef, H.cs, *])
    | ((with_reducible refine wrQ4 H fun _ f H2 => ?_); clear f; clear H; have H := H2; clear H2; simp (disch := omega) only [go_sem, undef, H.cs, *])
    | ((with_reducible refine wrQ5 H fun _ f H2 => ?_); clear f; clear H; have H := H2; clear H2; simp (disch := omega) only [go_sem, undef, H.cs, *])
    | ((with_reducible refine stwQ0 H ?hl ?h1 fun _ f H2 => ?_); (case hl => rfl); (case h1 => rfl); clear f; clear H; have H := H2; clear H2; simp (disch := omega) only [go_sem, undef, H.cs, *])
    | ((with_reducible refine stwQ1 H ?hl ?h1 fun _ f H2 => ?_); (case hl => rfl); (case h1 => rfl); clear f; clear H; have H := H2; clear H2; simp (disch := omega) only [go_sem, undef, H.cs, *])
    | ((with_reducible refine stwQ2 H ?hl ?h1 fun _ f H2 => ?_); (case hl => rfl); (case h1 => rfl); clear f; clear H; have H := H2; clear H2; simp (disch := omega) only [go_sem, undef, H.cs, *])
    | ((with_reducible refine stwQ3 H ?hl ?h1 fun _ f H2 => ?_); (case hl => rfl); (case h1 => rfl); clear f; clear H; have H := H2; clear H2; simp (disch := omega) only [go_sem, undef, H.cs, *])
    | ((with_reducible refine stwQ4 H ?hl ?h1 fun _ f H2 => ?_); (case hl => rfl); (case h1 => rfl); clear f; clear H; have H := H2; clear H2; simp (disch := omega) only [go_sem, undef, H.cs, *])
    | ((with_reducible refine stwQ5 H ?hl ?h1 fun _ f H2 => ?_); (case hl => rfl); (case h1 => rfl); clear f; clear H; have H := H2; clear H2; simp (disch := omega) only [go_sem, undef, H.cs, *])
    | ((with_reducible refine stQ0 H ?hl ?h1 fun _ f H2 => ?_); (case hl => exact Nat.le_of_ble_eq_true rfl); (case h1 => rfl); clear f; (simp only [go_sem] at H2); clear H; have H := H2; clear H2; simp (disch := omega) only [go_sem, undef, H.cs, *])
    | ((with_reducible refine stQ1 H ?hl ?h1 fun _ f H2 => ?_); (case hl => exact Nat.le_of_ble_eq_true rfl); (case h1 => rfl); clear f; (simp only [go_sem] at H2); clear H; have H := H2; clear H2; simp (disch := omega) only [go_sem, undef, H.cs, *])
    | ((with_reducible refine stQ2 H ?hl ?h1 fun _ f H2 => ?_); (case hl => exact Nat.le_of_ble_eq_true rfl); (case h1 => rfl); clear f; (simp only [go_sem] at H2); clear H; have H := H2; clear H2; simp (disch := omega) only [go_sem, undef, H.cs, *])
    | ((with_reducible refine stQ3 H ?hl ?h1 fun _ f H2 => ?_); (case hl => exact Nat.le_of_ble_eq_true rfl); (case h1 => rfl); clear f; (simp only [go_sem] at H2); clear H; have H := H2; clear H2; simp (disch := omega) only [go_sem, undef, H.cs, *])
    | ((with_reducible refine callQ H (inst_Less_s _ _ _) fun _ f H2 => ?_); clear f; clear H; have H := H2; clear H2; simp (disch := omega) only [go_sem, undef, H.cs, *])
    | ((with_reducible refine gQ_split (fun hq => ?_) (fun hq => ?_)) <;> (try simp only [Bool.not_true, Bool.not_false] at hq) <;> simp (disch := omega) only [go_sem, undef, H.cs, *])
    | ((with_reducible refine condB_split (fun hq => ?_) (fun hq => ?_)) <;> simp (disch := omega) only [go_sem, undef, H.cs, *]))
  all_goals exact ⟨by simp_all [cf2], H.fr⟩
theorem isNaN_s (x : Int) (m : Mem) : MC Try.prog n_cmp_isNaN_int [.int .i64 x] m fun v m' => v = .bool false ∧ Fr m m' [] := by
  refine cmp_isNaN_int_go (by simp [Try.f33]) ?_
  have H := Hq.refl m []
  simp (disch := omega) only [go_sem, undef]
  exact ⟨by simp, H.fr⟩
def cmpI (x y : Int) : Int := if x < y then -1 else if y < x then 1 else 0
theorem cmp_Compare_s (x y : Int) (m : Mem) : MC Try.prog n_cmp_Compare_int [.int .i64 x, .int .i64 y] m fun v m' => v = .int .i64 (cmpI x y) ∧ Fr m m' [] := by
  refine cmp_Compare_int_go (by simp [Try.f33]) ?_
  have H := Hq.refl m []
  simp (disch := omega) only [go_sem, undef]
  repeat' (first
    | ((with_reducible refine newQ H fun _ _ f H2 => ?_); clear f; clear H; have H := H2; clear H2; simp (disch := omega) only [go_sem, undef, H.cs, *])
    | ((with_reducible refine wrQ0 H fun _ f H2 => ?_); clear f; clear H; have H := H2; clear H2; simp (disch := omega) only [go_sem, undef, H.cs, *])
    | ((with_reducible refine wrQ1 H fun _ f H2 => ?_); clear f; clear H; have H := H2; clear H2; simp (disch := omega) only [go_sem, undef, H.cs, *])
    | ((with_reducible refine wrQ2 H fun _ f H2 => ?_); clear f; clear H; have H := H2; clear H2; simp (disch := omega) only [go_sem, undef, H.cs, *])
    | ((with_reducible refine wrQ3 H fun _ f H2 => ?_); clear f; clear H; have H := H2; clear H2; simp (disch := omega) only [go_sem, undef, H.cs, *])
    | ((with_reducible refine wrQ4 H fun _ f H2 => ?_); clear f; clear H; have H := H2; clear H2; simp (disch := omega) only [go_sem, undef, H.cs, *])
    | ((with_reducible refine wrQ5 H fun _ f H2 => ?_); clear f; clear H; have H := H2; clear H2; simp (disch := omega) only [go_sem, undef, H.cs, *])
    | ((with_reducible refine stwQ0 H ?hl ?h1 fun _ f H2 => ?_); (case hl => rfl); (case h1 => rfl); clear f; clear H; have H := H2; clear H2; simp (disch := omega) only [go_sem, undef, H.cs, *])
    | ((with_reducible refine stwQ1 H ?hl ?h1 fun _ f H2 => ?_); (case hl => rfl); (case h1 => rfl); clear f; clear H; have H := H2; clear H2; simp (disch := omega) only [go_sem, undef, H.cs, *])
    | ((with_reducible refine stwQ2 H ?hl ?h1 fun _ f H2 => ?_); (case hl => rfl); (case h1 => rfl); clear f; clear H; have H := H2; clear H2; simp (disch := omega) only [go_sem, undef, H.cs, *])
    | ((with_reducible refine stwQ3 H ?hl ?h1 fun _ f H2 => ?_); (case hl => rfl); (case h1 => rfl); clear f; clear H; have H := H2; clear H2; simp (disch := omega) only [go_sem, undef, H.cs, *])
    | ((with_reducible refine stwQ4 H ?hl ?h1 fun _ f H2 => ?_); (case hl => rfl); (case h1 => rfl); clear f; clear H; have H := H2; clear H2; simp (disch := omega) only [go_sem, undef, H.cs, *])
    | ((with_reducible refine stwQ5 H ?hl ?h1 fun _ f H2 => ?_); (case hl => rfl); (case h1 => rfl); clear f; clear H; have H := H2; clear H2; simp (disch := omega) only [go_sem, undef, H.cs, *])
    | ((with_reducible refine stQ0 H ?hl ?h1 fun _ f H2 => ?_); (case hl => exact Nat.le_of_ble_eq_true rfl); (case h1 => rfl); clear f; (simp only [go_sem] at H2); clear H; have H := H2; clear H2; simp (disch := omega) only [go_sem, undef, H.cs, *])
    | ((with_reducible refine stQ1 H ?hl ?h1 fun _ f H2 => ?_); (case hl => exact Nat.le_of_ble_eq_true rfl); (case h1 => rfl); clear f; (simp only [go_sem] at H2); clear H; have H := H2; clear H2; simp (disch := omega) only [go_sem, undef, H.cs, *])
    | ((with_reducible refine stQ2 H ?hl ?h1 fun _ f H2 => ?_); (case hl => exact Nat.le_of_ble_eq_true rfl); (case h1 => rfl); clear f; (simp only [go_sem] at H2); clear H; have H := H2; clear H2; simp (disch := omega) only [go_sem, undef, H.cs, *])
    | ((with_reducible refine stQ3 H ?hl ?h1 fun _ f H2 => ?_); (case hl => exact Nat.le_of_ble_eq_true rfl); (case h1 => rfl); clear f; (simp only [go_sem] at H2); clear H; have H := H2; clear H2; simp (disch := omega) only [go_sem, undef, H.cs, *])
    | ((with_reducible refine callQ H (isNaN_s _ _) fun _ f H2 => ?_); clear f; clear H; have H := H2; clear H2; simp (disch := omega) only [go_sem, undef, H.cs, *])
    | ((with_reducible refine gQ_split (fun hq => ?_) (fun hq => ?_)) <;> (try simp only [Bool.not_true, Bool.not_false] at hq) <;> simp (disch := omega) only [go_sem, undef, H.cs, *])
    | ((with_reducible refine condB_split (fun hq => ?_) (fun hq => ?_)) <;> simp (disch := omega) only [go_sem, undef, H.cs, *]))
  all_goals exact ⟨by simp only [decide_eq_true_eq, decide_eq_false_iff_not] at *; simp only [cmpI, Value.int.injEq, true_and]; repeat' split <;> omega, H.fr⟩
theorem book_Within_s (n lo hi : Int) (hn : R64 n) (h : lo ≤ hi) (h1 : -1000000 ≤ lo) (h2 : hi ≤ 1000000) (m : Mem) : MC Try.prog n_book_Within [.int .i64 n, .int .i64 lo, .int .i64 hi] m fun v m' => v = .int .i64 (wi n lo hi) ∧ Fr m m' [] := by
  have hn' : -9223372036854775808 ≤ n ∧ n ≤ 9223372036854775807 := hn
  refine book_Within_go (by simp [Try.f33]) ?_
  have hd : 0 < hi - lo + 1 := by omega
  have e1 := Int.tmod_lt_of_pos n hd
  have e2 : -(hi - lo + 1) < n.tmod (hi - lo + 1) := by
    have := Int.lt_tmod_of_pos n hd
    omega
  have H := Hq.refl m []
  unfold wi
  simp (disch := omega) only [go_sem, undef]
  generalize n.tmod (hi - lo + 1) = q at *
  refine condB_dec (fun h3 => ?_) (fun h3 => ?_)
  · simp (disch := omega) only [go_sem, undef]
    exact ⟨by rw [if_pos h3]; congr 1; omega, H.fr⟩
  · simp (disch := omega) only [go_sem, undef]
    exact ⟨by rw [if_neg h3], H.fr⟩
theorem deps_Reach_s (d : Dp) (i : I2) (m : Mem) : MC Try.prog n_deps_Reach [d.v, pv i] m fun v m' => v = .bool (decide (rightI i ∧ i.2 ≤ d.g i.1.toNat)) ∧ Fr m m' [] := by
  refine deps_Reach_go (by simp [Try.f33]) ?_
  have H := Hq.refl m []
  simp (disch := omega) only [go_sem, undef]
  refine newQ H fun b1 M f H => ?_
  simp (disch := omega) only [go_sem, undef]
  refine newQ H fun b2 M f H => ?_
  simp (disch := omega) only [go_sem, undef, H.cs]
  refine callQ H (inst_Right_s i M) fun M f H => ?_
  by_cases hr : rightI i
  · obtain ⟨h1, h2, h3, h4⟩ := hr
    simp (disch := omega) only [go_sem, undef, H.cs, dec_t (show rightI i from ⟨h1, h2, h3, h4⟩), Nat.add_comm 2]
    exact ⟨by simp [h1, h2, h3, h4, rightI], H.fr⟩
  · simp (disch := omega) only [go_sem, undef, H.cs, dec_f hr]
    exact ⟨by simp [hr], H.fr⟩
theorem Cel.g13 (c : Cel) (r : Nat) (h : r < 7) : c.cs[13 + r]? = some (.int .i64 (c.att.deps.g r)) := by
  match r, h with
  | 0, _ | 1, _ | 2, _ | 3, _ | 4, _ | 5, _ | 6, _ => rfl
theorem exec_upto_s (i : I2) (c : Cel) (r : Nat) (hr : r < 7) (hi : 0 ≤ i.2 ∧ i.2 ≤ 1000000) (m : Mem) : MC Try.prog n_exec_upto [pv i, c.v, .int .i64 r] m fun v m' => v = .int .i64 (upto i c.att r) ∧ Fr m m' [] := by
  refine exec_upto_go (by simp [Try.f33]) ?_
  have H := Hq.refl m []
  simp (disch := omega) only [go_sem, undef]
  refine newQ H fun b1 M f H => ?_
  simp (disch := omega) only [go_sem, undef]
  refine newQ H fun b2 M f H => ?_
  simp (disch := omega) only [go_sem, undef, H.cs]
  refine condB_dec (fun h => ?_) (fun h => ?_)
  · simp (disch := omega) only [go_sem, undef, H.cs, Cel.g13 c r hr]
    exact ⟨by simp only [upto, if_pos h], H.fr⟩
  · simp (disch := omega) only [go_sem, undef, H.cs, Cel.g13 c r hr]
    exact ⟨by simp only [upto, if_neg h], H.fr⟩
end Go.Fw

set_option linter.unusedSimpArgs false
set_option linter.unusedVariables false
namespace Go.Fw
open Go.Proofs Go.Shelf Go.Sort
def sort_ren : Ren where
  f := fun | 6 => 37 | 15 => 51 | 14 => 50 | 28 => 65 | 29 => 66 | 20 => 57 | 21 => 58 | 22 => 59 | 23 => 60 | 24 => 61 | 25 => 62 | 26 => 63 | 27 => 64 | 46 => 71 | 47 => 72 | 48 => 73 | 49 => 74 | 50 => 75 | 57 => 77 | n => n
  t := fun | 22 => 26 | 24 => 23 | 25 => 87 | 3 => 3 | 39 => 101 | 0 => 0 | 53 => 121 | 55 => 123 | 4 => 4 | 46 => 114 | 45 => 113 | 50 => 118 | 5 => 5 | 9 => 9 | 66 => 131 | 70 => 135 | 76 => 137 | 77 => 138 | n => n
  g := fun n => n
theorem sort_lays : SlLaysF0.n6 Try.prog sort_ren where
  mixed := by kernel_rfl
  f6 := Exists.intro Try.f37.name (And.intro (by kernel_rfl) (Eq.trans Try.func37 (congrArg some rfl)))
  f14 := Exists.intro Try.f50.name (And.intro (by kernel_rfl) (Eq.trans Try.func50 (congrArg some rfl)))
  f15 := Eq.trans Try.func51 (congrArg some rfl)
  f20 := Exists.intro Try.f57.name (And.intro (by kernel_rfl) (Eq.trans Try.func57 (congrArg some rfl)))
  f21 := Exists.intro Try.f58.name (And.intro (by kernel_rfl) (Eq.trans Try.func58 (congrArg some rfl)))
  f22 := Exists.intro Try.f59.name (And.intro (by kernel_rfl) (Eq.trans Try.func59 (congrArg some rfl)))
  f23 := Exists.intro Try.f60.name (And.intro (by kernel_rfl) (Eq.trans Try.func60 (congrArg some rfl)))
  f24 := Exists.intro Try.f61.name (And.intro (by kernel_rfl) (Eq.trans Try.func61 (congrArg some rfl)))
  f25 := Exists.intro Try.f62.name (And.intro (by kernel_rfl) (Eq.trans Try.func62 (congrArg some rfl)))
  f26 := Exists.intro Try.f63.name (And.intro (by kernel_rfl) (Eq.trans Try.func63 (congrArg some rfl)))
  f27 := Exists.intro Try.f64.name (And.intro (by kernel_rfl) (Eq.trans Try.func64 (congrArg some rfl)))
  f28 := Eq.trans Try.func65 (congrArg some rfl)
  f29 := Eq.trans Try.func66 (congrArg some rfl)
  f46 := Exists.intro Try.f71.name (And.intro (by kernel_rfl) (Eq.trans Try.func71 (congrArg some rfl)))
  f47 := Eq.trans Try.func72 (congrArg some rfl)
  f48 := Eq.trans Try.func73 (congrArg some rfl)
  f49 := Exists.intro Try.f74.name (And.intro (by kernel_rfl) (Eq.trans Try.func74 (congrArg some rfl)))
  f50 := Exists.intro Try.f75.name (And.intro (by kernel_rfl) (Eq.trans Try.func75 (congrArg some rfl)))
  f57 := Exists.intro Try.f77.name (And.intro (by kernel_rfl) (Eq.trans Try.func77 (congrArg some rfl)))
  t0 := Try.underlying0
  a0 := Try.isAgg0
  z0 := Try.sizeOf0
  v0 := Try.zeroValue0
  t3 := Try.underlying3
  a3 := Try.isAgg3
  z3 := Try.sizeOf3
  v3 := Try.zeroValue3
  t4 := Try.underlying4
  a4 := Try.isAgg4
  z4 := Try.sizeOf4
  v4 := Try.zeroValue4
  t5 := Try.underlying5
  a5 := Try.isAgg5
  z5 := Try.sizeOf5
  v5 := Try.zeroValue5
  t9 := Try.underlying9
  a9 := Try.isAgg9
  z9 := Try.sizeOf9
  v9 := Try.zeroValue9
  t22 := Try.underlying26
  a22 := Try.isAgg26
  z22 := Try.sizeOf26
  v22 := Try.zeroValue26
  t25 := Try.underlying87
  a25 := Try.isAgg87
  z25 := Try.sizeOf87
  v25 := Try.zeroValue87
  t39 := Try.underlying101
  a39 := Try.isAgg101
  z39 := Try.sizeOf101
  v39 := Try.zeroValue101
  t45 := Try.underlying113
  a45 := Try.isAgg113
  z45 := Try.sizeOf113
  v45 := Try.zeroValue113
  t46 := Try.underlying114
  a46 := Try.isAgg114
  z46 := Try.sizeOf114
  v46 := Try.zeroValue114
  t50 := Try.underlying118
  a50 := Try.isAgg118
  z50 := Try.sizeOf118
  v50 := Try.zeroValue118
  t53 := Try.underlying121
  a53 := Try.isAgg121
  z53 := Try.sizeOf121
  v53 := Try.zeroValue121
  t55 := Try.underlying123
  a55 := Try.isAgg123
  z55 := Try.sizeOf123
  v55 := Try.zeroValue123
  t66 := Try.underlying131
  a66 := Try.isAgg131
  z66 := Try.sizeOf131
  v66 := Try.zeroValue131
  t70 := Try.underlying135
  a70 := Try.isAgg135
  z70 := Try.sizeOf135
  v70 := Try.zeroValue135
  t76 := Try.underlying137
  a76 := Try.isAgg137
  z76 := Try.sizeOf137
  v76 := Try.zeroValue137
  t77 := Try.underlying138
  a77 := Try.isAgg138
  z77 := Try.sizeOf138
  v77 := Try.zeroValue138

theorem lt_cf2 (x y : Int × Int) : ltOf cf2 x y = decide (lt2 x y) := by
  unfold ltOf cf2
  by_cases h : lt2 x y <;> simp [h]
theorem swo2 : SWO (ltOf cf2) where
  irrefl x := by rw [lt_cf2]; simp [lt2]
  trans x y z h1 h2 := by rw [lt_cf2] at *; simp only [decide_eq_true_eq] at *; unfold lt2 at *; omega
  ntrans x y z h1 h2 := by rw [lt_cf2] at *; simp only [decide_eq_false_iff_not] at *; unfold lt2 at *; omega
/-! the nil row -/
theorem blen64_0 (m : Mem) : MC Try.prog n_math_bits_Len64 [.int .u64 0] m fun v m' => (∃ k : Int, v = .int .i64 k) ∧ m' = m := by
  refine math_bits_Len64_go (by simp [Try.f66]) ?_
  simp (disch := omega) only [go_sem]
  simp (disch := omega) only [go_sem, show rd .idxs [.string Lib.len8tab, .int .u8 (IntKind.u8.wrap 0)] m = some (.int .u8 0) from by kernel_rfl]
  exact ⟨⟨_, rfl⟩, rfl⟩
theorem blen_0 (m : Mem) : MC Try.prog n_math_bits_Len [.int .u64 (IntKind.u64.wrap 0)] m fun v m' => (∃ k : Int, v = .int .i64 k) ∧ m' = m := by
  refine math_bits_Len_go (by simp [Try.f66]) ?_
  simp (disch := omega) only [go_sem, show IntKind.u64.wrap 0 = 0 from rfl]
  refine call_with (blen64_0 m) ?_
  rintro v m' ⟨⟨k, rfl⟩, rfl⟩
  simp (disch := omega) only [go_sem]
  exact ⟨⟨k, rfl⟩, rfl⟩
theorem ins_0 (a f : Value) (m : Mem) : MC Try.prog n_slices_insertionSortCmpFunc_api_Inst [a, .int .i64 0, .int .i64 0, f] m fun v m' => v = .tuple #[] ∧ m' = m := by
  refine slices_insertionSortCmpFunc_api_Inst_go (by simp [Try.f66]) ?_
  simp (disch := omega) only [go_sem]
  refine loopQ_intro (fun _ E m' => E = [(0, a), (1, .int .i64 0), (2, .int .i64 0), (3, f), (8, .int .i64 1)] ∧ m' = m) 0 rfl ⟨by simp [only, Env.get], rfl⟩ ?_
  rintro n E m' ⟨rfl, rfl⟩
  simp (disch := omega) only [go_sem]
  exact ⟨rfl, rfl⟩
theorem pdq_0 (a f : Value) (k : Int) (m : Mem) : MC Try.prog n_slices_pdqsortCmpFunc_api_Inst [a, .int .i64 0, .int .i64 0, .int .i64 k, f] m fun v m' => v = .tuple #[] ∧ m' = m := by
  refine slices_pdqsortCmpFunc_api_Inst_go (by simp [Try.f66]) ?_
  simp (disch := omega) only [go_sem]
  refine loopQ_intro (fun _ E m' => E = [(0, a), (1, .int .i64 0), (2, .int .i64 0), (3, .int .i64 k), (4, f), (10, .bool true), (11, .bool true)] ∧ m' = m) 0 rfl ⟨by simp [only, Env.get], rfl⟩ ?_
  rintro n E m' ⟨rfl, rfl⟩
  simp (disch := omega) only [go_sem]
  refine call_with (ins_0 a f m') ?_
  rintro v m2 ⟨rfl, rfl⟩
  simp (disch := omega) only [go_sem]
  exact ⟨rfl, rfl⟩
theorem sort_nil (f : Value) (m : Mem) : MC Try.prog n_slices_SortFunc_api_Inst_api_Inst [.slice none 0 0, f] m fun v m' => v = .tuple #[] ∧ m' = m := by
  refine slices_SortFunc_api_Inst_api_Inst_go (by simp [Try.f66]) ?_
  simp (disch := omega) only [go_sem]
  refine call_with (blen_0 m) ?_
  rintro v m' ⟨⟨k, rfl⟩, rfl⟩
  simp (disch := omega) only [go_sem]
  refine call_with (pdq_0 _ f k m') ?_
  rintro v m2 ⟨rfl, rfl⟩
  simp (disch := omega) only [go_sem]
  exact ⟨rfl, rfl⟩
theorem sort_Inst_s {m : Mem} {v : Value} {l : List (Int × Int)} {g : Nat} (eg : ∀ args w, (callFunc g args).run Try.prog w = .ok (.enter g args) w) (hcmp : ∀ x y m, MC Try.prog g [pv x, pv y] m fun v m' => v = .int .i64 (cf2 x y) ∧ Fr m m' [])
    (ho : Own m T_api_Inst 2 v l.length (prs l)) (hnd : l.Nodup) (hl : l.length < 2 ^ 40) :
    MC Try.prog n_slices_SortFunc_api_Inst_api_Inst [v, .func (.func g) #[] #[]] m fun u m' => (u = .tuple #[] ∧ ∃ l', l'.Perm l ∧ Asc l' ∧ Own m' T_api_Inst 2 v l'.length (prs l')) ∧ Fr m m' (blkOf v) := by
  obtain ⟨hlen, h | ⟨b, cap, tail, rfl, hb, hcap⟩⟩ := ho
  · obtain ⟨rfl, h0⟩ := h
    have : l = [] := List.eq_nil_of_length_eq_zero h0
    subst this
    refine (sort_nil _ m).mono ?_
    rintro u m' ⟨rfl, rfl⟩
    exact ⟨⟨rfl, [], List.Perm.refl _, List.Pairwise.nil, Own.nil _ _ _⟩, Fr.refl _ _⟩
  · have hs := sort_MC sort_lays 2 (by omega) Try.isAgg23 Try.sizeOf23 pc (fun _ => rfl)
      (fun x v hv => List.all_eq_true.1 (pc_one x) v hv) cf2 swo2 g eg hcmp (cap := cap) (l := l) (tail := tail) hb (by omega)
    refine MC.mono hs ?_
    rintro u m' ⟨rfl, l', hp, hsorted, hb', hf⟩
    have hll := hp.length_eq
    refine ⟨⟨rfl, l', hp, ?_, ⟨by rw [prs_len], .inr ⟨b, cap, tail, by rw [hll], hb', ?_⟩⟩⟩, ?_⟩
    · have hnd' : l'.Nodup := hp.nodup_iff.2 hnd
      refine (List.Pairwise.and hsorted hnd').imp ?_
      rintro x y ⟨h1, h2⟩
      rw [lt_cf2] at h1
      simp only [decide_eq_false_iff_not] at h1
      unfold lt2 at *
      have : ¬ (x.1 = y.1 ∧ x.2 = y.2) := fun h => h2 (Prod.ext h.1 h.2)
      omega
    · rw [← hcap, List.length_append, List.length_append, prs_len, prs_len, hll]
    · simpa [blkOf] using hf
end Go.Fw

set_option linter.unusedSimpArgs false
set_option linter.unusedVariables false
namespace Go.Fw
open Go.Proofs
def unI (l : List I2) : List (I2 × Value) := l.map fun p => (p, .agg #[])
theorem keys_unI (l : List I2) : keysOf (unI l) = l := by simp [keysOf, unI, List.map_map, Function.comp_def]
theorem upd_unI (k : I2) (l : List I2) : updM k (.agg #[]) (unI l) = unI (addI k l) := by
  unfold updM addI
  rw [keys_unI]
  split
  · rename_i hk
    simp only [unI, List.map_map]
    refine List.map_congr_left fun p _ => ?_
    simp only [Function.comp]
    split
    · rename_i e; rw [e]
    · rfl
  · simp [unI]
theorem unI_len (l : List I2) : (unI l).length = l.length := by simp [unI]
/-- a set of instances -/
def setA (sb r : Nat) (l : List I2) : As where
  fp := [sb, r]
  wp := [sb, r]
  sub _ h := h
  p m := m sb = some (.cells [Value.map (some r)].toArray T_inst_Set (0, 0)) ∧ MapIs pv m r (unI l)
  st h e := ⟨by rw [e _ (by simp)]; exact h.1, by
    obtain ⟨es, c, hm, hh⟩ := h.2
    exact ⟨es, c, by rw [e _ (by simp)]; exact hm, hh⟩⟩
  th h b hb := by
    simp only [List.mem_cons, List.not_mem_nil, or_false] at hb
    rcases hb with rfl | rfl
    · rw [h.1]; exact Option.some_ne_none _
    · exact h.2.there
instance {sb r : Nat} {l : List I2} {L : List As} {G : List (Nat × Obj)} [I : CellF L G] : CellF (setA sb r l :: L) ((sb, .cells [Value.map (some r)].toArray T_inst_Set (0, 0)) :: G) := ⟨fun m h => ⟨h.1.1, I.h m h.2⟩⟩
instance {sb r : Nat} {l l' : List I2} : SameB (setA sb r l') (setA sb r l) := ⟨rfl, rfl⟩
theorem setA_nd {m : Mem} {sb r : Nat} {l : List I2} (h : (setA sb r l).p m) : l.Nodup := by
  have := h.2.nd; rwa [keys_unI] at this
theorem setA_ne {m : Mem} {sb r : Nat} {l : List I2} (h : (setA sb r l).p m) : sb ≠ r := by
  obtain ⟨h1, es, c, hm, _⟩ := h
  rintro rfl
  rw [h1] at hm; cases hm
abbrev lpp (rb : Nat) : Value := .pointer (some ⟨rb, 0, none⟩)
theorem inst_Add_s {m : Mem} {sb r : Nat} {l : List I2} (h : (setA sb r l).p m) (hl : l.length < 1000000) (k : I2) :
    MC Try.prog n_inst_Set_Add [lpp sb, pv k] m fun v m' => (v = .bool (decide (k ∉ l)) ∧ (setA sb r (addI k l)).p m') ∧ Fr m m' (setA sb r l).wp := by
  have hbox := h.1
  have hmap := h.2
  have hne := setA_ne h
  refine inst_Set_Add_go (by simp [Try.f33]) ?_
  have H := Hq.refl m []
  simp (disch := omega) only [go_sem, undef]
  refine newQ H fun b M f H => ?_
  have hb1 := H.fr.get0 hbox
  have hm1 := hmap.frame H.fr (by simp)
  simp (disch := omega) only [go_sem, undef, H.cs, hb1, rd_lenm hm1]
  refine mup_own (k := k) pv_enc hm1 fun N hN f2 _ => ?_
  have hb2 := f2.get hb1 (by simpa using hne)
  rw [upd_unI] at hN
  simp (disch := omega) only [go_sem, undef, hb2, rd_lenm hN]
  refine ⟨⟨?_, hb2, hN⟩, ?_⟩
  · rw [unI_len, unI_len]
    unfold addI
    by_cases hk : k ∈ l
    · simp [hk]
    · simp [hk]; omega
  · exact (H.fr.sub (by simp)).transS (f2.sub (by simp [setA]))
theorem lda_row {m : Mem} {b n : Nat} {l : List Value} {t : TypeId} {fr : Nat × Nat} (h : m b = some (.cells l.toArray t fr)) (hn : n ≤ l.length) : ldCells m ⟨b, 0, none⟩ 0 n = some (l.take n) := by
  rw [ldCells_row h n 0 0 (by omega)]; simp
theorem Hq.toSet {m0 M : Mem} {S : List Nat} {L : List As} {b1 b2 : Nat} (H : Hq m0 M S (cellA b2 (.cells [Value.map (some b1)].toArray T_inst_Set (0, 0)) :: cellA b1 (.map #[] 0) :: L)) : Hq m0 M S (setA b2 b1 [] :: L) := by
  have h1 : M b2 = some (.cells [Value.map (some b1)].toArray T_inst_Set (0, 0)) := by have := H.at 0 rfl; unfold cellA at this; exact this
  have h2 : M b1 = some (.map #[] 0) := by have := H.at 1 rfl; unfold cellA at this; exact this
  refine H.join.rep0 (M := M) (A' := setA b2 b1 []) ⟨h1, #[], 0, h2, by simp [unI], by simp [unI, keysOf], by simp, by simp⟩ (Fr.refl _ _) (fun b hb => .inl ?_) (fun b hb => .inl ?_)
  · simpa [setA] using hb
  · simpa [setA] using hb
abbrev addAll (l : List I2) (s : List I2) : List I2 := l.foldl (fun s k => addI k s) s
theorem addI_len (k : I2) (l : List I2) : (addI k l).length ≤ l.length + 1 := by unfold addI; split <;> simp
theorem addAll_len (l : List I2) : ∀ s : List I2, (addAll l s).length ≤ s.length + l.length := by
  induction l with
  | nil => intro s; simp
  | cons a r ih => intro s; have := ih (addI a s); have := addI_len a s; simp only [addAll, List.foldl_cons, List.length_cons] at *; omega
theorem inst_New_s {m : Mem} {a : Option Addr} {c : Nat} {l : List I2} (hrd : RdS 2 pc m (.slice a l.length c) l) (hl : l.length < 1000000) : CN Try.prog n_inst_New [.slice a l.length c] m fun v A => ∃ sb r, v = lpp sb ∧ A = setA sb r (addAll l []) := by
  refine inst_New_go (by simp [Try.f33]) ?_
  have H := Hq.refl m []
  simp (disch := omega) only [go_sem, undef]
  refine newQ H fun b1 M f H => ?_
  simp (disch := omega) only [go_sem, undef]
  refine newQ H fun b2 M f H => ?_
  simp (disch := omega) only [go_sem, undef]
  have H := H.toSet
  refine loopQ_intro (fun n E m' => ∃ k, k ≤ l.length ∧ n = l.length - k ∧ E = [(3, lpp b2), (9, .slice a l.length c), (10, .int .i64 l.length), (11, .int .i64 (k : Nat))] ∧ Hq m m' [] [setA b2 b1 (addAll (l.take k) [])]) l.length rfl ⟨0, by omega, rfl, rfl, by simpa using H⟩ ?_
  clear H
  rintro n E m' ⟨k, hk, rfl, rfl, H⟩
  simp (disch := omega) only [go_sem, undef]
  refine condB_dec (fun hlt => ?_) (fun hlt => ?_)
  · have hlt : k < l.length := by omega
    refine RdS.elK (hrd.frame H.fr) (i := k) hlt (by decide) fun b o x hx hix hE => ?_
    simp (disch := omega) only [go_sem, undef, hix, hE.lda0]
    repeat' (first
      | ((with_reducible refine newQ H fun _ _ f H2 => ?_); clear f; clear H; have H := H2; clear H2; simp (disch := omega) only [go_sem, undef, H.cs, *, hix, hE.lda0, pc_take])
      | ((with_reducible refine wrQ0 H fun _ f H2 => ?_); clear f; clear H; have H := H2; clear H2; simp (disch := omega) only [go_sem, undef, H.cs, *, hix, hE.lda0, pc_take])
      | ((with_reducible refine wrQ1 H fun _ f H2 => ?_); clear f; clear H; have H := H2; clear H2; simp (disch := omega) only [go_sem, undef, H.cs, *, hix, hE.lda0, pc_take])
      | ((with_reducible refine wrQ2 H fun _ f H2 => ?_); clear f; clear H; have H := H2; clear H2; simp (disch := omega) only [go_sem, undef, H.cs, *, hix, hE.lda0, pc_take])
      | ((with_reducible refine wrQ3 H fun _ f H2 => ?_); clear f; clear H; have H := H2; clear H2; simp (disch := omega) only [go_sem, undef, H.cs, *, hix, hE.lda0, pc_take])
      | ((with_reducible refine wrQ4 H fun _ f H2 => ?_); clear f; clear H; have H := H2; clear H2; simp (disch := omega) only [go_sem, undef, H.cs, *, hix, hE.lda0, pc_take])
      | ((with_reducible refine wrQ5 H fun _ f H2 => ?_); clear f; clear H; have H := H2; clear H2; simp (disch := omega) only [go_sem, undef, H.cs, *, hix, hE.lda0, pc_take])
      | ((with_reducible refine stwQ0 H ?hl ?h1 fun _ f H2 => ?_); (case hl => rfl); (case h1 => rfl); clear f; clear H; have H := H2; clear H2; simp (disch := omega) only [go_sem, undef, H.cs, *, hix, hE.lda0, pc_take])
      | ((with_reducible refine stwQ1 H ?hl ?h1 fun _ f H2 => ?_); (case hl => rfl); (case h1 => rfl); clear f; clear H; have H := H2; clear H2; simp (disch := omega) only [go_sem, undef, H.cs, *, hix, hE.lda0, pc_take])
      | ((with_reducible refine stwQ2 H ?hl ?h1 fun _ f H2 => ?_); (case hl => rfl); (case h1 => rfl); clear f; clear H; have H := H2; clear H2; simp (disch := omega) only [go_sem, undef, H.cs, *, hix, hE.lda0, pc_take])
      | ((with_reducible refine stwQ3 H ?hl ?h1 fun _ f H2 => ?_); (case hl => rfl); (case h1 => rfl); clear f; clear H; have H := H2; clear H2; simp (disch := omega) only [go_sem, undef, H.cs, *, hix, hE.lda0, pc_take])
      | ((with_reducible refine stwQ4 H ?hl ?h1 fun _ f H2 => ?_); (case hl => rfl); (case h1 => rfl); clear f; clear H; have H := H2; clear H2; simp (disch := omega) only [go_sem, undef, H.cs, *, hix, hE.lda0, pc_take])
      | ((with_reducible refine stwQ5 H ?hl ?h1 fun _ f H2 => ?_); (case hl => rfl); (case h1 => rfl); clear f; clear H; have H := H2; clear H2; simp (disch := omega) only [go_sem, undef, H.cs, *, hix, hE.lda0, pc_take])
      | ((with_reducible refine stQ0 H ?hl ?h1 fun _ f H2 => ?_); (case hl => exact Nat.le_of_ble_eq_true rfl); (case h1 => rfl); clear f; (simp only [go_sem] at H2); clear H; have H := H2; clear H2; simp (disch := omega) only [go_sem, undef, H.cs, *, hix, hE.lda0, pc_take])
      | ((with_reducible refine stQ1 H ?hl ?h1 fun _ f H2 => ?_); (case hl => exact Nat.le_of_ble_eq_true rfl); (case h1 => rfl); clear f; (simp only [go_sem] at H2); clear H; have H := H2; clear H2; simp (disch := omega) only [go_sem, undef, H.cs, *, hix, hE.lda0, pc_take])
      | ((with_reducible refine stQ2 H ?hl ?h1 fun _ f H2 => ?_); (case hl => exact Nat.le_of_ble_eq_true rfl); (case h1 => rfl); clear f; (simp only [go_sem] at H2); clear H; have H := H2; clear H2; simp (disch := omega) only [go_sem, undef, H.cs, *, hix, hE.lda0, pc_take])
      | ((with_reducible refine stQ3 H ?hl ?h1 fun _ f H2 => ?_); (case hl => exact Nat.le_of_ble_eq_true rfl); (case h1 => rfl); clear f; (simp only [go_sem] at H2); clear H; have H := H2; clear H2; simp (disch := omega) only [go_sem, undef, H.cs, *, hix, hE.lda0, pc_take])
      | ((with_reducible refine gQ_split (fun hq => ?_) (fun hq => ?_)) <;> (try simp only [Bool.not_true, Bool.not_false] at hq) <;> simp (disch := omega) only [go_sem, undef, H.cs, *, hix, hE.lda0, pc_take])
      | ((with_reducible refine condB_split (fun hq => ?_) (fun hq => ?_)) <;> simp (disch := omega) only [go_sem, undef, H.cs, *, hix, hE.lda0, pc_take]))
    have hset := H.at 1 rfl
    have hkl : (addAll (l.take k) []).length ≤ k := by have := addAll_len (l.take k) []; simp at this; omega
    refine mup_own (k := x) pv_enc hset.2 fun N hN f2 _ => ?_
    rw [upd_unI] at hN
    simp (disch := omega) only [go_sem, undef]
    have hne := setA_ne hset
    have H2 := H.rep 1 rfl (A' := setA b2 b1 (addI x (addAll (l.take k) []))) ⟨f2.get hset.1 (by simpa using hne), hN⟩ (f2.sub (by simp [setA])) (fun b hb => .inl hb) (fun b hb => .inl hb)
    have H3 := dropQ0 H2
    refine handN_intro (l.length - (k + 1)) (by omega) ⟨k + 1, by omega, rfl, rfl, ?_⟩
    rw [List.take_add_one, hx]
    simpa [addAll, List.foldl_append] using H3
  · have : k = l.length := by omega
    subst this
    simp (disch := omega) only [go_sem, undef]
    rw [List.take_length] at H
    exact ⟨_, ⟨b2, b1, rfl, rfl⟩, H.at 0 rfl, H.fr, fun b hb => (H.nw _ (List.mem_cons_self ..) b hb).resolve_right (by simp)⟩
end Go.Fw

set_option linter.unusedSimpArgs false
set_option linter.unusedVariables false
namespace Go.Fw
open Go.Proofs
theorem prs_app (l r : List I2) : prs (l ++ r) = prs l ++ prs r := by simp [prs]
theorem asc_sortI {l l' : List I2} (hp : l'.Perm l) (ha : Asc l') (hn : l.Nodup) : l' = sortI l :=
  sorted_one lt2_irr lt2_tr (hp.trans (sortX_perm lt2 l).symm) ha (sortX_sorted lt2_tr lt2_tot l hn)
theorem inst_List_s {m : Mem} {sb r : Nat} {l : List I2} (h : (setA sb r l).p m) (hl : l.length < 1000000) :
    CN Try.prog n_inst_Set_List [lpp sb] m fun v A => A = ownA T_api_Inst 2 v (sortI l).length (prs (sortI l)) := by
  have hnd := setA_nd h
  have hbox := h.1
  refine inst_Set_List_go (by simp [Try.f33]) ?_
  have H := Hq.refl m []
  simp (disch := omega) only [go_sem, undef, hbox]
  refine rng_own h.2 fun it N hit hI f1 => ?_
  simp (disch := omega) only [go_sem, undef]
  refine loopQ_intro (fun n E m' => ∃ u done, n = l.length - done.length ∧ E = [(3, u), (9, .pointer (some ⟨it, 0, none⟩))] ∧ IterIs pv m' it r (unI l) done ∧ Own m' T_api_Inst 2 u done.length (prs done) ∧
    Fr m m' [] ∧ (∀ b ∈ blkOf u, m b = none ∧ b ≠ it)) l.length rfl ⟨_, [], rfl, rfl, hI, Own.nil _ _ _, f1, fun b hb => by simp [blkOf, Env.get] at hb⟩ ?_
  clear hI f1 H
  rintro n E m' ⟨u, done, rfl, rfl, hI, ho, f, hfr⟩
  have hdl : done.length ≤ l.length := by
    obtain ⟨es, c, seen, _, hh, _, hd, hsub, _⟩ := hI
    rw [keys_unI] at hsub
    exact hd.length_le_of_subset hsub
  simp (disch := omega) only [go_sem, undef]
  refine nxt_own pv_enc hI (fun hperm => ?_) (fun k w N hkw hk hI2 hent f2 hnone => ?_)
  · rw [keys_unI] at hperm
    simp (disch := omega) only [go_sem, undef]
    have hdn : done.Nodup := hperm.nodup_iff.1 hnd
    refine call_with (sort_Inst_s (enters_of Try.func38 (by kernel_rfl) rfl) inst_List_c1_s ho hdn (by omega)) ?_
    rintro x m2 ⟨⟨rfl, l', hp, hasc, ho2⟩, f3⟩
    simp (disch := omega) only [go_sem, undef]
    have hs := asc_sortI (hp.trans hperm.symm) hasc hnd
    subst hs
    refine ⟨_, rfl, ho2, f.trans f3 (fun x hx hx0 => absurd (hfr x hx).1 hx0), fun b hb => (hfr b hb).1⟩
  · have hI2l : (done ++ [k]).length ≤ l.length := by
      obtain ⟨es, c, seen, _, hh, _, hd, hsub, _⟩ := hI2
      rw [keys_unI] at hsub
      exact hd.length_le_of_subset hsub
    simp only [List.length_append, List.length_cons, List.length_nil] at hI2l
    have H := Hp.refl N []
    simp (disch := omega) only [go_sem, undef, hent]
    repeat' (first
      | (refine new_H H fun _ _ _ _ H => ?_; simp (disch := omega) only [go_sem, undef, H.hs, *])
      | (refine gQ_split (fun hq => ?_) (fun hq => ?_) <;> (try simp only [Bool.not_true, Bool.not_false] at hq) <;> simp (disch := omega) only [go_sem, undef, H.hs, *])
      | (refine condB_split (fun hq => ?_) (fun hq => ?_) <;> simp (disch := omega) only [go_sem, undef, H.hs, *])
      | (refine wr0 H fun _ _ H => ?_; simp (disch := omega) only [go_sem, undef, H.hs, *])
      | (refine wr1 H fun _ _ H => ?_; simp (disch := omega) only [go_sem, undef, H.hs, *])
      | (refine wr2 H fun _ _ H => ?_; simp (disch := omega) only [go_sem, undef, H.hs, *])
      | (refine wr3 H fun _ _ H => ?_; simp (disch := omega) only [go_sem, undef, H.hs, *])
      | (refine stw0 H rfl rfl fun _ _ H => ?_; simp (disch := omega) only [go_sem, undef, H.hs, *])
      | (refine stw1 H rfl rfl fun _ _ H => ?_; simp (disch := omega) only [go_sem, undef, H.hs, *]))
    have fall : Fr m' _ [it] := f2.trans0 H.fr
    have hitm : it ∉ blkOf u := fun h => (hfr it h).2 rfl
    have ho2 := ho.frame fall (fun b hb h => (hfr b hb).2 (by simpa using h))
    have fm := f.trans fall (fun x hx hx0 => by simp at hx; subst hx; exact absurd hit hx0)
    have hI3 := hI2.frame H.fr (by simp) (by simp)
    refine app_own (k := 1) ho2 rfl (news := pc k) ?_ rfl (fun v hv => List.all_eq_true.1 (pc_one k) v hv) rfl (by omega) (by omega) ?_
    · have := H.hs.1
      simp only [ldS]
      rw [ldCells_row (l := pc k) this 2 0 0 (by simp [pc_len])]; rfl
    · intro u2 N3 ho3 f3 hblk
      simp (disch := omega) only [go_sem, undef]
      have hrb : r ∉ blkOf u := fun hr => by
        have := (hfr r hr).1
        exact h.2.there this
      have hblk' : ∀ b ∈ blkOf u2, m b = none ∧ b ≠ it := fun b hb => by
        rcases hblk b hb with h | h
        · exact hfr b h
        · refine ⟨fresh_fr fm h, ?_⟩
          rintro rfl
          exact hI3.there h
      refine handN_intro (l.length - (done.length + 1)) (by omega) ⟨u2, done ++ [k], by simp, rfl, hI3.frame f3 hitm hrb, ?_, fm.trans f3 (fun x hx hx0 => absurd (hfr x hx).1 hx0), hblk'⟩
      rw [List.length_append, prs_app]
      simpa [prs] using ho3
end Go.Fw

set_option linter.unusedSimpArgs false
set_option linter.unusedVariables false
namespace Go.Fw
open Go.Proofs
theorem rds_one {m : Mem} {b : Nat} {x : I2} {T : TypeId} {fr : Nat × Nat} (h : m b = some (.cells (pc x).toArray T fr)) : RdS 2 pc m (.slice (some ⟨b, 0, none⟩) [x].length 1) [x] :=
  ⟨pc_len, _, _, rfl, by simp, .inr ⟨b, 0, rfl, fun i v hv => by
    rw [h, cellAt_cells]
    simpa using hv⟩⟩
/-- a plan under way is read -/
structure PlM (m : Mem) (pb r : Nat) (done : Dp) (ov : Value) (C : LogL) : Prop where
  box : m pb = some (.cells (dv done ++ [Value.map (some r), ov]).toArray T_exec_plan (0, 0))
  map : MapIs pv m r (cv C)
theorem PlM.frame0 {m m' : Mem} {pb r : Nat} {done : Dp} {ov : Value} {C : LogL} (h : PlM m pb r done ov C) (f : Fr m m' []) : PlM m' pb r done ov C := ⟨f.get0 h.box, h.map.frame f (by simp)⟩
theorem dv_app (d : Dp) (x y : Value) (k : Nat) (h : k < 7) : (dv d ++ [x, y])[k]? = some (.int .i64 (d.g k)) := by
  rw [List.getElem?_append_left (by rw [dv_len]; exact h), dv_get d k h]
theorem dv_app7 (d : Dp) (x y : Value) : (dv d ++ [x, y])[7]? = some x := rfl
theorem dv_app8 (d : Dp) (x y : Value) : (dv d ++ [x, y])[8]? = some y := rfl
theorem rd_lkpC0 {m : Mem} {r : Nat} {l : LogL} (h : MapIs pv m r (cv l)) (k : Int × Int) :
    rd (.lkp true [.i .i64, .i .i64] Cel.zero.v false) [.map (some r), pv k] m = some ((lkC k l).getD Cel.zero).v := by
  rw [rd_lkp pv_enc h k]
  have hn : (keysC l).Nodup := by have := h.nd; rwa [keys_cv] at this
  rw [look_cv k l hn]
  cases lkC k l <;> rfl
theorem slots_cons {a b : Int} (h : a < b) : slots a b = (a + 1) :: slots (a + 1) b := by
  unfold slots
  obtain ⟨n, hn⟩ : ∃ n, (b - a).toNat = n + 1 := ⟨(b - a).toNat - 1, by omega⟩
  have e : (b - (a + 1)).toNat = n := by omega
  rw [hn, e, List.range_succ_eq_map, List.map_cons, List.map_map]
  congr 1
  · simp
  · refine List.map_congr_left fun x _ => ?_
    simp only [Function.comp, Nat.succ_eq_add_one, Int.natCast_add, Int.natCast_one]; omega
theorem slots_nil {a b : Int} (h : b ≤ a) : slots a b = [] := by
  unfold slots; rw [show (b - a).toNat = 0 by omega]; rfl
/-- the rows from r on -/
def restR (done : Dp) (i : I2) (a : Att) (r : Nat) : List I2 := ((List.range 7).drop r).flatMap fun r => (slots (done.g r) (upto i a r)).map fun s => ((r : Int), s)
theorem restR_0 (done : Dp) (i : I2) (a : Att) : restR done i a 0 = hangL done i a := rfl
theorem restR_step (done : Dp) (i : I2) (a : Att) {r : Nat} (h : r < 7) : restR done i a r = ((slots (done.g r) (upto i a r)).map fun s => ((r : Int), s)) ++ restR done i a (r + 1) := by
  unfold restR
  rw [List.drop_eq_getElem_cons (by simpa using h)]
  simp
theorem restR_7 (done : Dp) (i : I2) (a : Att) : restR done i a 7 = [] := rfl
abbrev smallC (C : LogL) : Prop := ∀ p ∈ C, ∀ r, r < 7 → 0 ≤ p.2.att.deps.g r ∧ p.2.att.deps.g r ≤ 1000
theorem nodup_addI {k : I2} {l : List I2} (h : k ∉ l) : addI k l = l ++ [k] := by unfold addI; rw [if_neg h]
def bfsK (C : LogL) (done : Dp) (f at_ : Nat) : List I2 ⊕ I2 → List I2 ⊕ I2
  | .inr k => .inr k
  | .inl row => bfs C done f (at_ + 1) row
theorem bfs_some {C : LogL} {done : Dp} {f at_ : Nat} {row : List I2} {x : I2} (h : row[at_]? = some x) : bfs C done (f + 1) at_ row = bfsK C done f at_ (visit C row (hangL done x ((lkC x C).getD Cel.zero).att)) := by
  simp only [bfs, h]
  cases visit C row (hangL done x ((lkC x C).getD Cel.zero).att) <;> rfl
theorem getD_att {C : LogL} (hs : smallC C) (x : I2) {r : Nat} (hr : r < 7) : 0 ≤ ((lkC x C).getD Cel.zero).att.deps.g r ∧ ((lkC x C).getD Cel.zero).att.deps.g r ≤ 1000 := by
  cases h : lkC x C with
  | none => simp only [Option.getD_none]; show 0 ≤ Dp.g (fun _ => 0) r ∧ Dp.g (fun _ => 0) r ≤ 1000; unfold Dp.g; split <;> simp
  | some c => simp only [Option.getD_some]; exact hs _ (lkC_mem h) r hr
set_option maxHeartbeats 8000000 in
theorem exec_hangs_s {m : Mem} {pb rm : Nat} {done : Dp} {ov : Value} {C : LogL} (h : PlM m pb rm done ov C) (hC : C.length ≤ 100) (hs : smallC C) (hk : ∀ i ∈ keysC C, 0 ≤ i.2 ∧ i.2 ≤ 1000) (hd : ∀ r, r < 7 → 0 ≤ done.g r ∧ done.g r ≤ 1000)
    (root : I2) (hr : lkC root C ≠ none) :
    CN Try.prog n_exec_plan_hangs [lpp pb, pv root] m fun v A => match hangs C done root with
      | .inl row => ∃ u, v = .tuple #[u, pv (0, 0)] ∧ A = ownA T_api_Inst 2 u row.length (prs row)
      | .inr k => v = .tuple #[.slice none 0 0, pv k] ∧ A = nilA := by
  generalize hT : hangs C done root = tgt
  refine exec_plan_hangs_go (by simp [Try.f33]) ?_
  have H := Hq.refl m []
  simp (disch := omega) only [go_sem, undef]
  refine newQ H fun b3 M f H => ?_
  simp (disch := omega) only [go_sem, undef]
  refine newQ H fun b5 M f H => ?_
  simp (disch := omega) only [go_sem, undef, H.cs, pc_take]
  refine newQ H fun b4 M f H => ?_
  simp (disch := omega) only [go_sem, undef, H.cs, pc_take]
  have hc4 := H.cs.1
  refine callN H (inst_New_s (l := [root]) (rds_one hc4) (by simp)) fun _ M _ ⟨sb, rs, e1, e2⟩ f H => ?_
  subst e1
  subst e2
  simp (disch := omega) only [go_sem, undef, H.cs, pc_take]
  refine newQ H fun b7 M f H => ?_
  simp (disch := omega) only [go_sem, undef]
  have H := (dropQ2 H).toRow 2 1 1 rfl (by decide)
  have H := dropQ3 H
  rw [show (pc root).take (1 * 2) = prs [root] from rfl] at H
  rw [show addAll [root] [] = [root] from rfl] at H
  refine loopQ_intro (fun n E m' => ∃ at_ row u, n + at_ = C.length + 1 ∧ at_ ≤ row.length ∧ E = [(0, lpp pb), (5, lpp b5), (6, lpp sb), (7, u), (8, .int .i64 (at_ : Nat))] ∧ bfs C done n at_ row = tgt ∧ (∀ x ∈ row, lkC x C ≠ none) ∧
    Hq m m' [] [ownA T_api_Inst 2 u row.length (prs row), setA sb rs row, cellA b5 (.cells (pc (0, 0)).toArray T_api_Inst (0, 0))]) (C.length + 1) rfl ⟨0, [root], _, rfl, by simp, rfl, hT, by simpa using hr, H⟩ ?_
  clear H hc4 f
  rintro n E m' ⟨at_, row, u, hn, ha, rfl, hb, hin, H⟩
  have hnd := setA_nd (H.at 1 rfl)
  have hlen := row_le hnd hin
  refine Own.formK (H.at 0 rfl) fun ua uc e => ?_
  subst e
  have hrd := Own.rds (enc := pc) (by decide) pc_len (H.at 0 rfl)
  simp (disch := omega) only [go_sem, undef]
  refine condB_dec (fun hlt => ?_) (fun hlt => ?_)
  · have hlt : at_ < row.length := by omega
    simp (disch := omega) only [go_sem, undef]
    refine RdS.elK hrd (i := at_) hlt (by decide) fun b o x hx hix hE => ?_
    simp (disch := omega) only [go_sem, undef, hix, hE.lda0, pc_take]
    refine newQ H fun b9 M f H => ?_
    simp (disch := omega) only [go_sem, undef]
    have hp := h.frame0 H.fr
    repeat' (first
      | ((with_reducible refine newQ H fun _ _ f H2 => ?_); clear f; clear H; have H := H2; clear H2; simp (disch := omega) only [go_sem, undef, H.cs, *, hp.box, dv_app7, rd_lkpC0 hp.map])
      | ((with_reducible refine wrQ0 H fun _ f H2 => ?_); clear f; clear H; have H := H2; clear H2; simp (disch := omega) only [go_sem, undef, H.cs, *, hp.box, dv_app7, rd_lkpC0 hp.map])
      | ((with_reducible refine wrQ1 H fun _ f H2 => ?_); clear f; clear H; have H := H2; clear H2; simp (disch := omega) only [go_sem, undef, H.cs, *, hp.box, dv_app7, rd_lkpC0 hp.map])
      | ((with_reducible refine wrQ2 H fun _ f H2 => ?_); clear f; clear H; have H := H2; clear H2; simp (disch := omega) only [go_sem, undef, H.cs, *, hp.box, dv_app7, rd_lkpC0 hp.map])
      | ((with_reducible refine wrQ3 H fun _ f H2 => ?_); clear f; clear H; have H := H2; clear H2; simp (disch := omega) only [go_sem, undef, H.cs, *, hp.box, dv_app7, rd_lkpC0 hp.map])
      | ((with_reducible refine wrQ4 H fun _ f H2 => ?_); clear f; clear H; have H := H2; clear H2; simp (disch := omega) only [go_sem, undef, H.cs, *, hp.box, dv_app7, rd_lkpC0 hp.map])
      | ((with_reducible refine wrQ5 H fun _ f H2 => ?_); clear f; clear H; have H := H2; clear H2; simp (disch := omega) only [go_sem, undef, H.cs, *, hp.box, dv_app7, rd_lkpC0 hp.map])
      | ((with_reducible refine stwQ0 H ?hl ?h1 fun _ f H2 => ?_); (case hl => rfl); (case h1 => rfl); clear f; clear H; have H := H2; clear H2; simp (disch := omega) only [go_sem, undef, H.cs, *, hp.box, dv_app7, rd_lkpC0 hp.map])
      | ((with_reducible refine stwQ1 H ?hl ?h1 fun _ f H2 => ?_); (case hl => rfl); (case h1 => rfl); clear f; clear H; have H := H2; clear H2; simp (disch := omega) only [go_sem, undef, H.cs, *, hp.box, dv_app7, rd_lkpC0 hp.map])
      | ((with_reducible refine stwQ2 H ?hl ?h1 fun _ f H2 => ?_); (case hl => rfl); (case h1 => rfl); clear f; clear H; have H := H2; clear H2; simp (disch := omega) only [go_sem, undef, H.cs, *, hp.box, dv_app7, rd_lkpC0 hp.map])
      | ((with_reducible refine stwQ3 H ?hl ?h1 fun _ f H2 => ?_); (case hl => rfl); (case h1 => rfl); clear f; clear H; have H := H2; clear H2; simp (disch := omega) only [go_sem, undef, H.cs, *, hp.box, dv_app7, rd_lkpC0 hp.map])
      | ((with_reducible refine stwQ4 H ?hl ?h1 fun _ f H2 => ?_); (case hl => rfl); (case h1 => rfl); clear f; clear H; have H := H2; clear H2; simp (disch := omega) only [go_sem, undef, H.cs, *, hp.box, dv_app7, rd_lkpC0 hp.map])
      | ((with_reducible refine stwQ5 H ?hl ?h1 fun _ f H2 => ?_); (case hl => rfl); (case h1 => rfl); clear f; clear H; have H := H2; clear H2; simp (disch := omega) only [go_sem, undef, H.cs, *, hp.box, dv_app7, rd_lkpC0 hp.map])
      | ((with_reducible refine stQ0 H ?hl ?h1 fun _ f H2 => ?_); (case hl => exact Nat.le_of_ble_eq_true rfl); (case h1 => rfl); clear f; (simp only [go_sem] at H2); clear H; have H := H2; clear H2; simp (disch := omega) only [go_sem, undef, H.cs, *, hp.box, dv_app7, rd_lkpC0 hp.map])
      | ((with_reducible refine stQ1 H ?hl ?h1 fun _ f H2 => ?_); (case hl => exact Nat.le_of_ble_eq_true rfl); (case h1 => rfl); clear f; (simp only [go_sem] at H2); clear H; have H := H2; clear H2; simp (disch := omega) only [go_sem, undef, H.cs, *, hp.box, dv_app7, rd_lkpC0 hp.map])
      | ((with_reducible refine stQ2 H ?hl ?h1 fun _ f H2 => ?_); (case hl => exact Nat.le_of_ble_eq_true rfl); (case h1 => rfl); clear f; (simp only [go_sem] at H2); clear H; have H := H2; clear H2; simp (disch := omega) only [go_sem, undef, H.cs, *, hp.box, dv_app7, rd_lkpC0 hp.map])
      | ((with_reducible refine stQ3 H ?hl ?h1 fun _ f H2 => ?_); (case hl => exact Nat.le_of_ble_eq_true rfl); (case h1 => rfl); clear f; (simp only [go_sem] at H2); clear H; have H := H2; clear H2; simp (disch := omega) only [go_sem, undef, H.cs, *, hp.box, dv_app7, rd_lkpC0 hp.map])
      | ((with_reducible refine gQ_split (fun hq => ?_) (fun hq => ?_)) <;> (try simp only [Bool.not_true, Bool.not_false] at hq) <;> simp (disch := omega) only [go_sem, undef, H.cs, *, hp.box, dv_app7, rd_lkpC0 hp.map])
      | ((with_reducible refine condB_split (fun hq => ?_) (fun hq => ?_)) <;> simp (disch := omega) only [go_sem, undef, H.cs, *, hp.box, dv_app7, rd_lkpC0 hp.map]))
    have hp := h.frame0 H.fr
    simp (disch := omega) only [go_sem, undef, H.cs, hp.box, dv_app7, rd_lkpC0 hp.map, pc_take]
    refine newQ H fun b10 M f H => ?_
    have hp := h.frame0 H.fr
    simp (disch := omega) only [go_sem, undef, H.cs, hp.box, dv_app7, rd_lkpC0 hp.map, pc_take]
    refine stwQ0 H rfl rfl fun M f H => ?_
    simp (disch := omega) only [go_sem, undef]
    have hxin := hin x (List.mem_of_getElem? hx)
    have hxk : x ∈ keysC C := Classical.byContradiction fun hn => hxin (lkC_none.2 hn)
    have hx2 := hk x hxk
    obtain ⟨f0, rfl⟩ : ∃ f0, n = f0 + 1 := ⟨n - 1, by omega⟩
    rw [bfs_some hx, ← restR_0] at hb
    have hat := fun r (hr : r < 7) => getD_att hs x hr
    generalize (lkC x C).getD Cel.zero = cc at *
    refine loopQ_intro (fun n E m' => ∃ r row u, r ≤ 7 ∧ n = 7 - r ∧ E = [(0, lpp pb), (5, lpp b5), (6, lpp sb), (7, u), (8, .int .i64 (at_ : Nat)), (9, lpp b9), (10, lpp b10), (41, .int .i64 (r : Nat))] ∧
      bfsK C done f0 at_ (visit C row (restR done x cc.att r)) = tgt ∧ at_ < row.length ∧ (∀ x ∈ row, lkC x C ≠ none) ∧
      Hq m m' [] [cellA b10 (.cells cc.cs.toArray T_api_Cell (0, 0)), cellA b9 (.cells (pc x).toArray T_api_Inst (0, 0)), ownA T_api_Inst 2 u row.length (prs row), setA sb rs row, cellA b5 (.cells (pc (0, 0)).toArray T_api_Inst (0, 0))]) 7 rfl ⟨0, row, _, by omega, rfl, rfl, hb, hlt, hin, H⟩ ?_
    clear H f hb hrd hix hE hp hin hnd hlen hlt ha hxin hx
    rintro n E m' ⟨r, row, u, hr7, rfl, rfl, hb, hlt, hin, H⟩
    simp (disch := omega) only [go_sem, undef]
    refine condB_dec (fun hr => ?_) (fun hr => ?_)
    · have hr : r < 7 := by omega
      simp (disch := omega) only [go_sem, undef, H.cs, pc_take, Cel.all]
      refine callQ H (exec_upto_s x cc r hr ⟨by omega, by omega⟩ _) fun M f H => ?_
      have hp := h.frame0 H.fr
      have hdr := hd r hr
      have har := hat r hr
      simp (disch := omega) only [go_sem, undef, hp.box, dv_app _ _ _ r hr]
      have hup : upto x cc.att r ≤ 1000 ∧ -1 ≤ upto x cc.att r := by unfold upto; split <;> omega
      rw [restR_step _ _ _ hr] at hb
      generalize upto x cc.att r = to at *
      refine loopQ_intro (fun n E m' => ∃ (s : Int) (row : List I2) (u : Value), 1 ≤ s ∧ s ≤ 2000 ∧ n = (to + 1 - s).toNat ∧ E = [(0, lpp pb), (5, lpp b5), (6, lpp sb), (7, u), (8, .int .i64 (at_ : Nat)), (9, lpp b9), (10, lpp b10), (11, .int .i64 (r : Nat)), (12, .int .i64 to), (13, .int .i64 s), (41, .int .i64 (r : Nat))] ∧
        bfsK C done f0 at_ (visit C row (((slots (s - 1) to).map fun s => ((r : Int), s)) ++ restR done x cc.att (r + 1))) = tgt ∧ at_ < row.length ∧ (∀ x ∈ row, lkC x C ≠ none) ∧
        Hq m m' [] [cellA b10 (.cells cc.cs.toArray T_api_Cell (0, 0)), cellA b9 (.cells (pc x).toArray T_api_Inst (0, 0)), ownA T_api_Inst 2 u row.length (prs row), setA sb rs row, cellA b5 (.cells (pc (0, 0)).toArray T_api_Inst (0, 0))]) _ rfl ⟨done.g r + 1, row, u, by omega, by omega, rfl, rfl, by rw [show done.g r + 1 - 1 = done.g r by omega]; exact hb, hlt, hin, H⟩ ?_
      clear H f hb hp hlt hin
      rintro n E m' ⟨s, row, u, hs1, hs2, rfl, rfl, hb, hlt, hin, H⟩
      simp (disch := omega) only [go_sem, undef]
      refine condB_dec (fun hst => ?_) (fun hst => ?_)
      · rw [slots_cons (by omega), List.map_cons, List.cons_append] at hb
        rw [show s - 1 + 1 = s by omega] at hb
        simp only [visit] at hb
        simp (disch := omega) only [go_sem, undef]
        refine newQ H fun b14 M f H => ?_
        simp (disch := omega) only [go_sem, undef]
        refine stwQ0 H rfl rfl fun M f H => ?_
        have hp := h.frame0 H.fr
        simp (disch := omega) only [go_sem, undef, H.cs, pc_take, hp.box, dv_app7, rd_lkpC hp.map]
        refine newQ H fun b15 M f H => ?_
        have hp := h.frame0 H.fr
        simp (disch := omega) only [go_sem, undef, H.cs, pc_take, hp.box, dv_app7, rd_lkpC hp.map]
        refine stwQ0 H rfl rfl fun M f H => ?_
        have H := dropQ0 H
        have hnd := setA_nd (H.at 4 rfl)
        have hlen := row_le hnd hin
        cases hlk : lkC ((r : Int), s) C with
        | none =>
          rw [hlk, if_pos rfl] at hb
          simp only [bfsK] at hb
          subst hb
          simp (disch := omega) only [go_sem, undef, Option.isSome_none, H.cs, pc_take]
          refine stwQ5 H rfl rfl fun M f H => ?_
          simp (disch := omega) only [go_sem, undef, H.cs, pc_take]
          exact ⟨nilA, ⟨rfl, rfl⟩, trivial, H.fr, by simp⟩
        | some cl =>
          rw [hlk, if_neg (by simp)] at hb
          simp (disch := omega) only [go_sem, undef, Option.isSome_some, H.cs, pc_take]
          refine tS4 H (fun h => inst_Add_s h (by omega) ((r : Int), s)) fun M f H => ?_
          by_cases hm : ((r : Int), s) ∈ row
          · rw [if_pos hm] at hb
            rw [show addI ((r : Int), s) row = row by unfold addI; rw [if_pos hm]] at H
            simp (disch := omega) only [go_sem, undef, dec_f (not_not_intro hm)]
            have H := dropQ0 H
            exact handN_intro (to + 1 - (s + 1)).toNat (by omega) ⟨s + 1, row, u, by omega, by omega, rfl, rfl, by rw [show s + 1 - 1 = s by omega]; exact hb, hlt, hin, H⟩
          · rw [if_neg hm] at hb
            rw [nodup_addI hm] at H
            simp (disch := omega) only [go_sem, undef, dec_t hm, H.cs, pc_take]
            refine newQ H fun b16 M f H => ?_
            simp (disch := omega) only [go_sem, undef]
            refine appQ4 H rfl (news := pc ((r : Int), s)) (ldS_cell H.cs.1 (by simp [pc_len])) rfl (fun v hv => List.all_eq_true.1 (pc_one _) v hv) rfl (by omega) (by omega) fun u2 M f H => ?_
            have H := dropQ0 (dropQ0 H)
            simp (disch := omega) only [go_sem, undef]
            have H : Hq m M [] [cellA b10 (.cells cc.cs.toArray T_api_Cell (0, 0)), cellA b9 (.cells (pc x).toArray T_api_Inst (0, 0)), ownA T_api_Inst 2 u2 (row ++ [((r : Int), s)]).length (prs (row ++ [((r : Int), s)])), setA sb rs (row ++ [((r : Int), s)]), cellA b5 (.cells (pc (0, 0)).toArray T_api_Inst (0, 0))] := by
              rw [prs_app, List.length_append]
              simpa [prs] using H
            refine handN_intro (to + 1 - (s + 1)).toNat (by omega) ⟨s + 1, row ++ [((r : Int), s)], u2, by omega, by omega, rfl, rfl, by rw [show s + 1 - 1 = s by omega]; exact hb, by rw [List.length_append]; omega, fun y hy => ?_, H⟩
            rcases List.mem_append.1 hy with hy | hy
            · exact hin y hy
            · simp only [List.mem_singleton] at hy
              rw [hy, hlk]; simp
      · rw [slots_nil (by omega), List.map_nil, List.nil_append] at hb
        simp (disch := omega) only [go_sem, undef]
        exact handN_intro (7 - (r + 1)) (by omega) ⟨r + 1, row, u, by omega, rfl, rfl, hb, hlt, hin, H⟩
    · have e7 : r = 7 := by omega
      subst e7
      rw [restR_7] at hb
      simp only [visit, bfsK] at hb
      have hlen := row_le (setA_nd (H.at 3 rfl)) hin
      simp (disch := omega) only [go_sem, undef]
      have H := dropQ0 (dropQ0 H)
      exact handN_intro f0 (by omega) ⟨at_ + 1, row, u, by omega, by omega, rfl, hb, hin, H⟩
  · have hae : at_ = row.length := by omega
    have ht : tgt = .inl row := by
      rw [← hb]
      cases n with
      | zero => rfl
      | succ n =>
        simp only [bfs]
        rw [List.getElem?_eq_none (by omega)]
    subst ht
    simp (disch := omega) only [go_sem, undef, H.cs]
    refine stwQ2 H rfl rfl fun M f H => ?_
    simp (disch := omega) only [go_sem, undef, H.cs, pc_take]
    exact ⟨_, ⟨_, rfl, rfl⟩, H.at 0 rfl, H.fr, fun b hb => (H.nw _ (List.mem_cons_self ..) b hb).resolve_right (by simp)⟩
end Go.Fw

set_option linter.unusedSimpArgs false
set_option linter.unusedVariables false
namespace Go.Fw
open Go.Proofs
set_option maxHeartbeats 4000000 in
theorem exec_beyond_s {m : Mem} {pb rm : Nat} {done : Dp} {ov : Value} {C : LogL} (h : PlM m pb rm done ov C) (root : I2) :
    MC Try.prog n_exec_plan_beyond [lpp pb, pv root] m fun v M => v = .bool (decide (beyond C root)) ∧ Fr m M [] := by
  refine exec_plan_beyond_go (by simp [Try.f33]) ?_
  have H := Hq.refl m []
  simp (disch := omega) only [go_sem, undef]
  refine newQ H fun b3 M f0 H => ?_
  have hp := h.frame0 H.fr
  simp (disch := omega) only [go_sem, undef, hp.box, dv_app7]
  refine rng_own hp.map fun it N hit hI f1 => ?_
  have hb3 : N b3 = some (.cells (pc root).toArray T_api_Inst (0, 0)) := f1.get0 H.cs.1
  have hf := H.fr.trans0 f1
  have hitm := fresh_fr H.fr hit
  have hit3 : it ≠ b3 := by rintro rfl; have := H.cs.1; rw [hit] at this; cases this
  simp (disch := omega) only [go_sem, undef]
  refine loopQ_intro (fun n E m' => ∃ dn, n = C.length - dn.length ∧ E = [(3, lpp b3), (10, lpp it)] ∧ IterIs pv m' it rm (cv C) dn ∧ Fr m m' [] ∧ m' b3 = some (.cells (pc root).toArray T_api_Inst (0, 0)) ∧ ∀ k ∈ dn, ¬ (k.1 = root.1 ∧ root.2 < k.2)) _ rfl ⟨[], rfl, rfl, hI, hf, hb3, by simp⟩ ?_
  clear hI f1 H hb3 hf hp f0
  rintro n E m' ⟨dn, rfl, rfl, hI, f, hb3, hno⟩
  simp (disch := omega) only [go_sem, undef]
  refine nxt_own pv_enc hI (fun hperm => ?_) (fun k w N hkw hk hI2 hent f2 hnone => ?_)
  · rw [keys_cv] at hperm
    simp (disch := omega) only [go_sem, undef]
    refine ⟨?_, f⟩
    have : ¬ beyond C root := fun ⟨i, hi, h1, h2⟩ => hno i (hperm.mem_iff.1 hi) ⟨h1, h2⟩
    simp [this]
  · have hI2l : (dn ++ [k]).length ≤ C.length := by
      obtain ⟨es, c, seen, _, hh, _, hd, hsub, _⟩ := hI2
      rw [keys_cv] at hsub
      have := hd.length_le_of_subset hsub
      simpa [keysC] using this
    simp only [List.length_append, List.length_cons, List.length_nil] at hI2l
    have hkC : k ∈ keysC C := by rw [← keys_cv]; exact List.mem_map.2 ⟨_, hkw, rfl⟩
    have hb3 := f2.get hb3 (by simpa using fun e => hit3 e.symm)
    have H := Hq.refl N []
    simp (disch := omega) only [go_sem, undef, hent]
    refine newQ H fun b5 M f3 H => ?_
    simp (disch := omega) only [go_sem, undef]
    refine stwQ0 H rfl rfl fun M f3 H => ?_
    have hb3 := H.fr.get0 hb3
    have fall : Fr m' M [it] := f2.trans0 H.fr
    have fm := f.trans fall (fun x hx hx0 => by simp at hx; subst hx; exact absurd hitm hx0)
    have hI3 := hI2.frame H.fr (by simp) (by simp)
    by_cases h1 : k.1 = root.1
    · by_cases h2 : root.2 < k.2
      · simp (disch := omega) only [go_sem, undef, H.cs, hb3, dec_t h1, dec_t h2]
        have : beyond C root := ⟨k, hkC, h1, h2⟩
        exact ⟨by simp [this], fm⟩
      · simp (disch := omega) only [go_sem, undef, H.cs, hb3, dec_t h1, dec_f h2]
        exact handN_intro (C.length - (dn.length + 1)) (by omega) ⟨dn ++ [k], by simp, rfl, hI3, fm, hb3, fun x hx => by
          rcases List.mem_append.1 hx with hx | hx
          · exact hno x hx
          · simp only [List.mem_singleton] at hx; subst hx; exact fun h => h2 h.2⟩
    · simp (disch := omega) only [go_sem, undef, H.cs, hb3, dec_f h1]
      exact handN_intro (C.length - (dn.length + 1)) (by omega) ⟨dn ++ [k], by simp, rfl, hI3, fm, hb3, fun x hx => by
        rcases List.mem_append.1 hx with hx | hx
        · exact hno x hx
        · simp only [List.mem_singleton] at hx; subst hx; exact fun h => h1 h.1⟩
end Go.Fw

set_option linter.unusedSimpArgs false
set_option linter.unusedVariables false
namespace Go.Fw
open Go.Proofs
theorem nats_get {l : List Nat} {tail : List Value} {i : Nat} (h : i < l.length) : (nats l ++ tail)[i]? = some (.int .i64 ((l.getD i 0 : Nat) : Int)) := by
  rw [List.getElem?_append_left (by simpa [nats] using h), nats, List.getElem?_map, List.getD_eq_getElem?_getD, List.getElem?_eq_getElem h]; rfl
theorem nats_set {l : List Nat} {tail : List Value} {i x : Nat} (h : i < l.length) : (nats l ++ tail).set i (.int .i64 (x : Int)) = nats (l.set i x) ++ tail := by
  rw [List.set_append_left _ _ (by simpa [nats] using h), nats, nats, List.map_set]
theorem getD_set_ne {l : List Nat} {i j x : Nat} (h : i ≠ j) : (l.set i x).getD j 0 = l.getD j 0 := by
  rw [List.getD_eq_getElem?_getD, List.getD_eq_getElem?_getD, List.getElem?_set_ne h]
theorem tnA (x i : Nat) : ((x : Int) + (i : Int)).toNat = x + i := by omega
theorem tnA1 (x : Nat) : ((x : Int) + 1).toNat = x + 1 := by omega
theorem nats_len (l : List Nat) : (nats l).length = l.length := by simp [nats]
theorem setIn {l : List Value} {i : Nat} {v : Value} : l.toArray.setIfInBounds i v = (l.set i v).toArray := by simp
abbrev dcell (l : List Nat) (tail : List Value) : Obj := .cells (nats l ++ tail).toArray 3 (0, 0)
theorem swapRange_s {m : Mem} {b cap : Nat} {l : List Nat} {tail : List Value} (hb : m b = some (dcell l tail)) (x y n : Nat) (hx : x + n ≤ l.length) (hy : y + n ≤ l.length) (hl : l.length ≤ 1000) (f : Value) :
    MC Try.prog n_slices_swapRangeCmpFunc_int [.slice (some ⟨b, 0, none⟩) l.length cap, .int .i64 x, .int .i64 y, .int .i64 n, f] m fun v M => v = .tuple #[] ∧ M b = some (dcell (swpR l x y n) tail) ∧ Fr m M [b] := by
  refine slices_swapRangeCmpFunc_int_go (by simp [Try.f33]) ?_
  simp (disch := omega) only [go_sem, undef]
  refine loopQ_intro (fun g E m' => ∃ i, i ≤ n ∧ g = n - i ∧ E = [(0, .slice (some ⟨b, 0, none⟩) l.length cap), (1, .int .i64 x), (2, .int .i64 y), (3, .int .i64 n), (10, .int .i64 (i : Nat))] ∧ m' b = some (dcell (swpR l x y i) tail) ∧ Fr m m' [b]) n rfl ⟨0, by omega, rfl, rfl, hb, Fr.refl _ _⟩ ?_
  rintro g E m' ⟨i, hi, rfl, rfl, hb', hf⟩
  have hlen := swpR_len l x y i
  simp (disch := omega) only [go_sem, undef]
  refine condB_dec (fun h => ?_) (fun h => ?_)
  · have hi' : i < n := by omega
    generalize hd : swpR l x y i = d at *
    have g1 : d.length = l.length := hlen
    simp (disch := omega) only [go_sem, undef, hb', nats_get, nats_set, tnA, nats_len, setIn, wrO, set_self]
    have e : (d.set (x + i) (d.getD (y + i) 0)).length = d.length := by simp
    simp (disch := omega) only [go_sem, undef, nats_set, tnA, nats_len, setIn, wrO, e]
    refine handN_intro (n - (i + 1)) (by omega) ⟨i + 1, by omega, rfl, rfl, ?_, ?_⟩
    · rw [swpR, hd]
      simp [Mem.set, swp]
    · first
        | exact hf.transS (Fr.set (List.mem_singleton.2 rfl))
        | exact (hf.transS (Fr.set (List.mem_singleton.2 rfl))).transS (Fr.set (List.mem_singleton.2 rfl))
  · have : i = n := by omega
    subst this
    simp (disch := omega) only [go_sem, undef]
    exact ⟨rfl, hb', hf⟩
theorem rotate_s {m : Mem} {b cap : Nat} {l : List Nat} {tail : List Value} (hb : m b = some (dcell l tail)) (x mi y : Nat) (hx : x < mi) (hm : mi < y) (hy : y ≤ l.length) (hl : l.length ≤ 1000) (f : Value) :
    MC Try.prog n_slices_rotateCmpFunc_int [.slice (some ⟨b, 0, none⟩) l.length cap, .int .i64 x, .int .i64 mi, .int .i64 y, f] m fun v M => v = .tuple #[] ∧ M b = some (dcell (l.take x ++ ((l.drop mi).take (y - mi) ++ ((l.drop x).take (mi - x) ++ l.drop y))) tail) ∧ Fr m M [b] := by
  have hsplit : l = l.take x ++ ((l.drop x).take (mi - x) ++ ((l.drop mi).take (y - mi) ++ l.drop y)) := by
    have e1 : (l.drop mi).take (y - mi) ++ l.drop y = l.drop mi := by
      have := List.take_append_drop (y - mi) (l.drop mi)
      rwa [List.drop_drop, show mi + (y - mi) = y by omega] at this
    have e2 : (l.drop x).take (mi - x) ++ l.drop mi = l.drop x := by
      have := List.take_append_drop (mi - x) (l.drop x)
      rwa [List.drop_drop, show x + (mi - x) = mi by omega] at this
    rw [e1, e2, List.take_append_drop]
  have hrot := rotL_ok mi (mi - x + (y - mi)) (l.take x) ((l.drop x).take (mi - x)) ((l.drop mi).take (y - mi)) (l.drop y) (mi - x) (y - mi) (by simp; omega) (by simp; omega) (by simp; omega) (by omega) (by omega) (by omega)
  rw [← hsplit] at hrot
  rw [← hrot]
  clear hrot hsplit
  have ex : (mi : Int) - x = ((mi - x : Nat) : Int) := by omega
  have ey : (y : Int) - mi = ((y - mi : Nat) : Int) := by omega
  refine slices_rotateCmpFunc_int_go (by simp [Try.f33]) ?_
  simp (disch := omega) only [go_sem, undef, ex, ey]
  refine loopQ_intro (fun g E m' => ∃ i j d, 0 < i ∧ 0 < j ∧ i + x ≤ mi ∧ mi + j ≤ y ∧ i + j ≤ g + 1 ∧ E = [(0, .slice (some ⟨b, 0, none⟩) l.length cap), (2, .int .i64 mi), (4, f), (10, .int .i64 (i : Nat)), (11, .int .i64 (j : Nat))] ∧ d.length = l.length ∧ rotL d mi g i j = rotL l mi (mi - x + (y - mi)) (mi - x) (y - mi) ∧ m' b = some (dcell d tail) ∧ Fr m m' [b]) (mi - x + (y - mi)) rfl
    ⟨mi - x, y - mi, l, by omega, by omega, by omega, by omega, by omega, rfl, rfl, rfl, hb, Fr.refl _ _⟩ ?_
  rintro g E m' ⟨i, j, d, h1, h2, h3, h4, h5, rfl, hd, hr, hb', hf⟩
  have ei : (mi : Int) - i = ((mi - i : Nat) : Int) := by omega
  have ei2 : (mi : Int) + j - i = ((mi + j - i : Nat) : Int) := by omega
  have eij : ∀ _ : j < i, (i : Int) - j = ((i - j : Nat) : Int) := fun _ => by omega
  have eji : ∀ _ : i < j, (j : Int) - i = ((j - i : Nat) : Int) := fun _ => by omega
  by_cases e : i = j
  · subst e
    have hr' : rotL d mi g i i = swpR d (mi - i) mi i := by
      cases g with
      | zero => rfl
      | succ g => simp [rotL]
    simp (disch := omega) only [go_sem, undef, ei]
    have hs := swapRange_s (cap := cap) hb' (mi - i) mi i (by omega) (by omega) (by omega) f
    rw [hd] at hs
    refine call_with hs ?_
    rintro v M ⟨rfl, hM, hfM⟩
    simp (disch := omega) only [go_sem, undef]
    exact ⟨rfl, by rw [← hr, hr']; exact hM, hf.transS hfM⟩
  · obtain ⟨g, rfl⟩ : ∃ g', g = g' + 1 := ⟨g - 1, by omega⟩
    simp only [rotL, if_neg e] at hr
    have e' : ¬ ((i : Int) = j) := by omega
    by_cases hlt : j < i
    · rw [if_pos hlt] at hr
      simp (disch := omega) only [go_sem, undef, e', ei, dec_f e', dec_t (show (j : Int) < i by omega)]
      have hs := swapRange_s (cap := cap) hb' (mi - i) mi j (by omega) (by omega) (by omega) f
      rw [hd] at hs
      refine call_with hs ?_
      rintro v M ⟨rfl, hM, hfM⟩
      simp (disch := omega) only [go_sem, undef, eij hlt]
      exact handN_intro g (by omega) ⟨i - j, j, _, by omega, by omega, by omega, by omega, by omega, rfl, by rw [swpR_len]; exact hd, hr, hM, hf.transS hfM⟩
    · rw [if_neg hlt] at hr
      simp (disch := omega) only [go_sem, undef, e', ei, ei2, dec_f e', dec_f (show ¬ (j : Int) < i by omega)]
      have hs := swapRange_s (cap := cap) hb' (mi - i) (mi + j - i) i (by omega) (by omega) (by omega) f
      rw [hd] at hs
      refine call_with hs ?_
      rintro v M ⟨rfl, hM, hfM⟩
      simp (disch := omega) only [go_sem, undef, eji (by omega)]
      exact handN_intro g (by omega) ⟨i, j - i, _, by omega, by omega, by omega, by omega, by omega, rfl, by rw [swpR_len]; exact hd, hr, hM, hf.transS hfM⟩

/-- a comparison that a sort is given: it may look at what is not the row -/
structure CmpK (g : Nat) (cl : List Value) (key : Nat → Int) (S : Nat → Prop) (m : Mem) (b : Nat) : Prop where
  cal : callable Try.prog g = true
  run : ∀ M, Fr m M [b] → ∀ x y : Nat, S x → S y → MC Try.prog g (.int .i64 (x : Int) :: .int .i64 (y : Int) :: cl) M fun v M' => v = .int .i64 (cmpI (key x) (key y)) ∧ Fr M M' []
theorem CmpK.to {g : Nat} {cl : List Value} {key : Nat → Int} {S : Nat → Prop} {m M : Mem} {b : Nat} (h : CmpK g cl key S m b) (f : Fr m M [b]) : CmpK g cl key S M b := ⟨h.cal, fun N hN => h.run N (f.transS hN)⟩
theorem callv_s {g : Nat} {cl : List Value} {key : Nat → Int} {S : Nat → Prop} {m M : Mem} {b : Nat} (h : CmpK g cl key S m b) (f : Fr m M [b]) {x y : Nat} (hx : S x) (hy : S y) {K : Value → Mem → Prop} {l : Lk K} (k : ∀ M', Fr M M' [] → K (.int .i64 (cmpI (key x) (key y))) M') :
    xsP Try.prog .callv [.func (.func g) #[] cl.toArray, .int .i64 (x : Int), .int .i64 (y : Int)] M K l := by
  rw [xs_callv]
  refine ⟨h.cal, ?_⟩
  have := h.run M f x y hx hy
  refine call_with (by simpa using this) ?_
  rintro v M' ⟨rfl, hf⟩
  exact k M' hf
theorem cmpI_neg {x y : Int} : decide (cmpI x y < 0) = decide (x < y) := by unfold cmpI; split <;> (try split) <;> simp_all
theorem getD_app {α : Type} [Inhabited α] (A : List α) (x : α) (B : List α) (d : α) : (A ++ x :: B).getD A.length d = x := by simp [List.getD_eq_getElem?_getD]
theorem ltK_of {key : Nat → Int} {x z : Nat} (h : z < x) : ltK key x z ↔ key x < key z := by unfold ltK; omega
theorem swp_adj (A : List Nat) (z x : Nat) (B : List Nat) : swp (A ++ z :: x :: B) (A.length + 1) A.length = A ++ x :: z :: B := by
  unfold swp
  rw [getD_app, show A ++ z :: x :: B = (A ++ [z]) ++ x :: B by simp, show A.length + 1 = (A ++ [z]).length by simp, getD_app]
  simp
theorem nil_or_snoc {α : Type} (l : List α) : l = [] ∨ ∃ a b, l = a ++ [b] := by
  rcases List.eq_nil_or_concat l with h | ⟨a, b, h⟩
  · exact .inl h
  · exact .inr ⟨a, b, by rw [h, List.concat_eq_append]⟩
theorem sortK_one {key : Nat → Int} {Y X : List Nat} (hp : Y.Perm X) (hs : Y.Pairwise (ltK key)) (hX : X.Nodup) : Y = sortK key X :=
  sorted_one (ltK_irr key) (ltK_tr key) (hp.trans (sortX_perm _ X).symm) hs (sortX_sorted (ltK_tr key) (ltK_tot key) X hX)
theorem nodup_lt {X : List Nat} (h : X.Pairwise (· < ·)) : X.Nodup := h.imp (fun h => Nat.ne_of_lt h)
set_option maxHeartbeats 4000000 in
theorem insertion_s {m : Mem} {b cap g n0 lo hi : Nat} {cl : List Value} {key : Nat → Int} {S : Nat → Prop} (A X B : List Nat) {tail : List Value} (hb : m b = some (dcell (A ++ (X ++ B)) tail)) (hX : X.Pairwise (· < ·)) (hS : ∀ x ∈ X, S x) (hc : CmpK g cl key S m b) (hn0 : (A ++ (X ++ B)).length = n0) (hl : n0 ≤ 1000) (hlo : A.length = lo) (hhi : hi = lo + X.length) :
    MC Try.prog n_slices_insertionSortCmpFunc_int [.slice (some ⟨b, 0, none⟩) n0 cap, .int .i64 (lo : Nat), .int .i64 (hi : Nat), .func (.func g) #[] cl.toArray] m fun v M => v = .tuple #[] ∧ M b = some (dcell (A ++ (sortK key X ++ B)) tail) ∧ Fr m M [b] := by
  have hn1 : lo + (X.length + B.length) = n0 := by rw [← hn0, ← hlo]; simp
  refine slices_insertionSortCmpFunc_int_go (by simp [Try.f33]) ?_
  simp (disch := omega) only [go_sem, undef]
  refine loopQ_intro (fun n E m' => ∃ k Y, 1 ≤ k ∧ (k ≤ X.length ∨ k = 1) ∧ n = X.length - k ∧ E = [(0, .slice (some ⟨b, 0, none⟩) n0 cap), (1, .int .i64 (lo : Nat)), (2, .int .i64 (hi : Nat)), (3, .func (.func g) #[] cl.toArray), (8, .int .i64 ((lo + k : Nat) : Int))] ∧
    Y.Perm (X.take k) ∧ Y.Pairwise (ltK key) ∧ m' b = some (dcell (A ++ (Y ++ (X.drop k ++ B))) tail) ∧ Fr m m' [b]) (X.length - 1) rfl ⟨1, X.take 1, by omega, by omega, rfl, rfl, List.Perm.refl _, by cases X <;> simp, by rw [← List.append_assoc (X.take 1), List.take_append_drop]; exact hb, Fr.refl _ _⟩ ?_
  rintro n E m' ⟨k, Y, hk1, hk2, rfl, rfl, hp, hs, hb', hf⟩
  have hYl : Y.length = min k X.length := by rw [hp.length_eq, List.length_take]
  simp (disch := omega) only [go_sem, undef]
  refine condB_dec (fun h => ?_) (fun h => ?_)
  · have hkX : k < X.length := by omega
    have hYk : Y.length = k := by omega
    obtain ⟨x, hx⟩ : ∃ x, X[k]? = some x := ⟨_, List.getElem?_eq_getElem hkX⟩
    have hdrop : X.drop k = x :: X.drop (k + 1) := by
      rw [List.drop_eq_getElem_cons hkX]
      congr 1
      have := (List.getElem?_eq_some_iff.1 hx).2; exact this
    have hxX : x ∈ X := List.mem_of_getElem? hx
    have hYx : ∀ y ∈ Y, y < x := fun y hy => by
      have hy := hp.mem_iff.1 hy
      obtain ⟨i, hi, e⟩ := List.getElem_of_mem hy
      rw [List.length_take] at hi
      rw [List.getElem_take] at e
      have := List.pairwise_iff_getElem.1 hX i k (by omega) hkX (by omega)
      rw [e] at this
      have e2 := (List.getElem?_eq_some_iff.1 hx).2
      rw [e2] at this; exact this
    have hYS : ∀ y ∈ Y, S y := fun y hy => hS y (List.mem_of_mem_take (hp.mem_iff.1 hy))
    rw [hdrop] at hb'
    simp (disch := omega) only [go_sem, undef]
    refine loopQ_intro (fun n E m' => ∃ Y1 Y2, Y1 ++ Y2 = Y ∧ (∀ y ∈ Y2, ltK key x y) ∧ n = Y1.length ∧ E = [(0, .slice (some ⟨b, 0, none⟩) n0 cap), (1, .int .i64 (lo : Nat)), (2, .int .i64 (hi : Nat)), (3, .func (.func g) #[] cl.toArray), (8, .int .i64 ((lo + k : Nat) : Int)), (9, .int .i64 ((lo + Y1.length : Nat) : Int))] ∧
      m' b = some (dcell (A ++ (Y1 ++ x :: (Y2 ++ (X.drop (k + 1) ++ B)))) tail) ∧ Fr m m' [b]) Y.length rfl ⟨Y, [], by simp, by simp, rfl, by rw [hYk]; rfl, by simpa using hb', hf⟩ ?_
    clear hb' hf
    rintro n E m' ⟨Y1, Y2, hYY, hlt, rfl, rfl, hb', hf⟩
    have fin : ∀ M : Mem, M b = some (dcell (A ++ (Y1 ++ x :: (Y2 ++ (X.drop (k + 1) ++ B)))) tail) → (∀ y ∈ Y1, ltK key y x) →
        ∃ Y', Y'.Perm (X.take (k + 1)) ∧ Y'.Pairwise (ltK key) ∧ M b = some (dcell (A ++ (Y' ++ (X.drop (k + 1) ++ B))) tail) := by
      intro M hM hlt1
      subst hYY
      refine ⟨Y1 ++ x :: Y2, ?_, ?_, by simpa using hM⟩
      · rw [List.take_add_one, hx]
        refine (List.perm_middle).trans ?_
        refine (hp.cons x).trans ?_
        simpa using (List.perm_append_singleton x (X.take k)).symm
      · rw [List.pairwise_append] at hs ⊢
        obtain ⟨s1, s2, s3⟩ := hs
        refine ⟨s1, List.pairwise_cons.2 ⟨hlt, s2⟩, fun a ha y hy => ?_⟩
        rcases List.mem_cons.1 hy with rfl | hy
        · exact hlt1 a ha
        · exact s3 a ha y hy
    rcases nil_or_snoc Y1 with rfl | ⟨Y1', z, rfl⟩
    · simp (disch := omega) only [go_sem, undef, show lo + ([] : List Nat).length = lo from rfl, dec_f (Int.lt_irrefl (lo : Int))]
      obtain ⟨Y', p1, p2, p3⟩ := fin _ hb' (by simp)
      exact handN_intro (X.length - (k + 1)) (by omega) ⟨k + 1, Y', by omega, by omega, rfl, rfl, p1, p2, p3, hf⟩
    · have hz : z ∈ Y := by rw [← hYY]; simp
      have hzx := hYx z hz
      have hYl2 : Y1'.length + 1 + Y2.length = k := by rw [← hYk, ← hYY]; simp; omega
      obtain ⟨d, hd⟩ : ∃ d, d = A ++ ((Y1' ++ [z]) ++ x :: (Y2 ++ (X.drop (k + 1) ++ B))) := ⟨_, rfl⟩
      have hdl : d.length = n0 := by
        rw [hd, ← hn1]; simp; omega
      obtain ⟨p, hpp⟩ : ∃ p, p = lo + Y1'.length := ⟨_, rfl⟩
      have hd2 : d = (A ++ Y1') ++ z :: x :: (Y2 ++ (X.drop (k + 1) ++ B)) := by rw [hd]; simp
      have hpl : (A ++ Y1').length = p := by rw [List.length_append, hlo, hpp]
      have gz : d.getD p 0 = z := by rw [hd2, ← hpl, getD_app]
      have gx : d.getD (p + 1) 0 = x := by
        rw [hd2, show (A ++ Y1') ++ z :: x :: (Y2 ++ (X.drop (k + 1) ++ B)) = ((A ++ Y1') ++ [z]) ++ x :: (Y2 ++ (X.drop (k + 1) ++ B)) by simp, show p + 1 = ((A ++ Y1') ++ [z]).length by rw [List.length_append, hpl]; rfl, getD_app]
      have hsw : swp d (p + 1) p = A ++ (Y1' ++ x :: (z :: (Y2 ++ (X.drop (k + 1) ++ B)))) := by
        rw [hd2, ← hpl, swp_adj]; simp
      rw [← hd] at hb'
      have eL : lo + (Y1' ++ [z]).length = p + 1 := by simp; omega
      have hpn : p + 1 < n0 := by omega
      have e1 : ((p + 1 : Nat) : Int).toNat = p + 1 := by omega
      have e2 : (((p + 1 : Nat) : Int) - 1) = (p : Int) := by omega
      rw [eL]
      simp (disch := omega) only [go_sem, undef, dec_t (show ((lo : Nat) : Int) < ((p + 1 : Nat) : Int) by omega), hb', nats_get, e1, e2, Int.toNat_natCast, gx, gz, hc.cal]
      refine callv_s hc hf (hS x hxX) (hYS z hz) fun M hfM => ?_
      have hbM := hfM.get0 hb'
      have hf2 := hf.trans0 hfM
      by_cases hlt2 : key x < key z
      · have e3 : (d.set (p + 1) (d.getD p 0)).length = d.length := by simp
        simp (disch := omega) only [go_sem, undef, cmpI_neg, dec_t hlt2, hbM, nats_get, nats_set, e1, e2, Int.toNat_natCast, nats_len, setIn, wrO, set_self, e3]
        have hM2 : ∀ o, (M.set b o) b = some o := fun o => set_self _ _
        refine handN_intro Y1'.length (by simp) ⟨Y1', z :: Y2, by rw [← hYY]; simp, fun y hy => ?_, rfl, by rw [hpp], ?_, hf2.transS (Fr.set (List.mem_singleton.2 rfl))⟩
        · rcases List.mem_cons.1 hy with rfl | hy
          · exact (ltK_of hzx).2 hlt2
          · exact hlt y hy
        · rw [hM2]
          show some (dcell (swp d (p + 1) p) tail) = _
          rw [hsw]
          simp
      · have hall : ∀ y ∈ Y1' ++ [z], ltK key y x := by
          have hzx2 : ltK key z x := by
            rcases ltK_tot key z x (by omega) with h | h
            · exact h
            · exact absurd ((ltK_of hzx).1 h) hlt2
          intro y hy
          rcases List.mem_append.1 hy with hy | hy
          · rw [← hYY, List.append_assoc, List.pairwise_append] at hs
            exact ltK_tr key _ _ _ (hs.2.2 y hy z (by simp)) hzx2
          · simp only [List.mem_singleton] at hy; subst hy; exact hzx2
        simp (disch := omega) only [go_sem, undef, cmpI_neg, dec_f hlt2]
        obtain ⟨Y', p1, p2, p3⟩ := fin M (by rw [← hd]; exact hbM) hall
        exact handN_intro (X.length - (k + 1)) (by omega) ⟨k + 1, Y', by omega, by omega, rfl, rfl, p1, p2, p3, hf2⟩
  · have hXk : X.length ≤ k := by omega
    simp (disch := omega) only [go_sem, undef]
    rw [List.take_of_length_le hXk] at hp
    rw [List.drop_eq_nil_iff.2 hXk, List.nil_append, sortK_one hp hs (nodup_lt hX)] at hb'
    exact ⟨rfl, hb', hf⟩
end Go.Fw

set_option linter.unusedSimpArgs false
set_option linter.unusedVariables false
namespace Go.Fw
open Go.Proofs
theorem swp_adj2 (A : List Nat) (z x : Nat) (B : List Nat) : swp (A ++ z :: x :: B) A.length (A.length + 1) = A ++ x :: z :: B := by
  unfold swp
  rw [getD_app, show A ++ z :: x :: B = (A ++ [z]) ++ x :: B by simp, show A.length + 1 = (A ++ [z]).length by simp, getD_app]
  simp
theorem getD_mid {A L R B : List Nat} {i : Nat} (h1 : A.length ≤ i) (h2 : i < A.length + L.length) : (A ++ (L ++ (R ++ B))).getD i 0 = L.getD (i - A.length) 0 := by
  rw [List.getD_eq_getElem?_getD, List.getD_eq_getElem?_getD, List.getElem?_append_right h1, List.getElem?_append_left (by omega)]
theorem getD_right {A L R B : List Nat} {i : Nat} (h1 : A.length + L.length ≤ i) (h2 : i < A.length + L.length + R.length) : (A ++ (L ++ (R ++ B))).getD i 0 = R.getD (i - A.length - L.length) 0 := by
  rw [List.getD_eq_getElem?_getD, List.getD_eq_getElem?_getD, List.getElem?_append_right (by omega), List.getElem?_append_right (by omega), List.getElem?_append_left (by omega)]
theorem getD_in {L : List Nat} {i : Nat} (h : i < L.length) : L.getD i 0 ∈ L := by
  rw [List.getD_eq_getElem?_getD, List.getElem?_eq_getElem h]; exact List.getElem_mem h
theorem getD_some {L : List Nat} {i : Nat} (h : i < L.length) : L[i]? = some (L.getD i 0) := by
  rw [List.getD_eq_getElem?_getD, List.getElem?_eq_getElem h]; rfl
theorem kmono {key : Nat → Int} {R : List Nat} (h : R.Pairwise (ltK key)) {i j : Nat} (hij : i ≤ j) (hj : j < R.length) : key (R.getD i 0) ≤ key (R.getD j 0) := by
  rcases Nat.lt_or_eq_of_le hij with hij | rfl
  · have := pw_at h hij (getD_some (by omega)) (getD_some hj)
    unfold ltK at this; omega
  · exact Int.le_refl _
theorem half_rd (k : Nat) (m : Mem) : rd (.ish .shr) [.int .u64 (k : Int), .int .u64 1] m = some (.int .u64 ((k / 2 : Nat) : Int)) := by
  rw [rd_u64_shr k 1 1 rfl (by omega)]
theorem u64_nat (k : Nat) (h : k ≤ 4000) : IntKind.u64.wrap (k : Int) = (k : Int) := u64_in _ (by omega)
theorem half_u (x y : Nat) (h : x + y ≤ 4000) : ((((x : Int) + (y : Int)) : Int)) = ((x + y : Nat) : Int) := by omega
/-- what a merge does -/
def SymOK (g cap n0 : Nat) (cl : List Value) (key : Nat → Int) (S : Nat → Prop) (b : Nat) (tail : List Value) (N : Nat) : Prop := ∀ (m : Mem) (A L R B : List Nat) (a mi e : Nat), m b = some (dcell (A ++ (L ++ (R ++ B))) tail) → L ≠ [] → R ≠ [] → L.Pairwise (ltK key) → R.Pairwise (ltK key) →
    (∀ x ∈ L, ∀ y ∈ R, key x = key y → x < y) → (∀ x ∈ L ++ R, S x) → CmpK g cl key S m b → (A ++ (L ++ (R ++ B))).length = n0 → A.length = a → a + L.length = mi → mi + R.length = e → L.length + R.length ≤ N →
    MC Try.prog n_slices_symMergeCmpFunc_int [.slice (some ⟨b, 0, none⟩) n0 cap, .int .i64 (a : Nat), .int .i64 (mi : Nat), .int .i64 (e : Nat), .func (.func g) #[] cl.toArray] m fun v M => v = .tuple #[] ∧ (∃ Z, SortOf key Z (L ++ R) ∧ M b = some (dcell (A ++ (Z ++ B)) tail)) ∧ Fr m M [b]
end Go.Fw
