import Derived.Test.YtkdlojagpocnoaaGreatDoorAsC
import Derived.Test.YtkdlojagpocnoaaGreatDoorFxA
import Derived.Test.YtkdlojagpocnoaaGreatDooryaR
import Derived.Test.YtkdlojagpocnoaaGreatDoorFxB
set_option linter.unusedSimpArgs false
set_option linter.unusedVariables false
namespace Go.Fw
open Go.Proofs
def s5 (x : Int × Int × Int × Int × Int) : List Value := [.int .i64 x.1, .int .i64 x.2.1, .int .i64 x.2.2.1, .int .i64 x.2.2.2.1, .int .i64 x.2.2.2.2]
theorem dec_s5 : Dec [.i .i64, .i .i64, .i .i64, .i .i64, .i .i64] s5 (fun _ => True) := fun cs h => by
  have h3 : Dec [.i .i64, .i .i64, .i .i64] (fun p : Int × Int × Int => [.int .i64 p.1, .int .i64 p.2.1, .int .i64 p.2.2]) (fun _ => True) := Dec.seq dec_int dec_pair (fun a b => (a, b.1, b.2)) (fun _ _ => rfl) fun _ _ _ _ => trivial
  exact Dec.seq dec_pair h3 (fun a b => (a.1, a.2, b.1, b.2.1, b.2.2)) (fun _ _ => rfl) (fun _ _ _ _ => trivial) cs h
theorem fine_s (x : Int × Int × Int × Int × Int) (m : Mem) : MC Tryz.prog 26 [.agg (s5 x).toArray] m fun v m' => v = .bool (decide (x.2.2.1 = 0 ∧ x.2.2.2.1 = 0 ∧ x.2.2.2.2 = 0)) ∧ Fr m m' [] := by
  refine MC_start Tryz.func26 fine_ok (by kernel_rfl) (by simp [Tryz.f26]) ?_
  have H := Hq.refl m []
  simp (disch := omega) only [go_sem]
  refine newQ H fun b M f H => ?_
  by_cases h1 : x.2.2.1 = 0 <;> by_cases h2 : x.2.2.2.1 = 0 <;> by_cases h3 : x.2.2.2.2 = 0
  all_goals
    simp (disch := omega) only [go_sem, undef, s5, H.cs, h1, h2, h3, decide_true, decide_false, if_true, if_false]
    exact ⟨by simp [h1, h2, h3], H.fr⟩
theorem asums_s (x : Int × Int × Int × Int × Int) (m : Mem) : MC Tryz.prog 7 [.agg (s5 x).toArray] m fun v m' => v = .bool true ∧ Fr m m' [] := by
  refine MC_start Tryz.func7 asums_ok (by kernel_rfl) (by simp [Tryz.f7]) ?_
  have H := Hq.refl m []
  simp (disch := omega) only [go_sem]
  refine newQ H fun b M f H => ?_
  obtain ⟨B, hB, hf⟩ : ∃ B, B = decide (x.2.2.1 = 0 ∧ x.2.2.2.1 = 0 ∧ x.2.2.2.2 = 0) ∧ MC Tryz.prog 26 [.agg (s5 x).toArray] M fun v m' => v = .bool B ∧ Fr M m' [] := ⟨_, rfl, fine_s x M⟩
  obtain ⟨a, b2, c, d, e⟩ := x
  simp only [s5] at hf H ⊢
  dsimp only at hB
  simp (disch := omega) only [go_sem, undef, H.cs]
  refine callQ H hf fun M f H => ?_
  by_cases h1 : c = 0 <;> by_cases h2 : d = 0 <;> by_cases h3 : e = 0
  all_goals
    simp only [h1, h2, h3, and_self, and_true, true_and, and_false, false_and, decide_true, decide_false] at hB
    subst hB
    simp (disch := omega) only [go_sem, undef, H.cs, h1, h2, h3, decide_true, decide_false, if_true, if_false, show (true == true) = true from rfl, show (false == false) = true from rfl]
    refine callQ H (Go.Ev.ya_Runs _) fun M f H => ?_
    simp (disch := omega) only [go_sem, undef, H.cs, h1, h2, h3, decide_true, decide_false, if_true, if_false, show (true == true) = true from rfl, show (false == false) = true from rfl]
    exact ⟨rfl, H.fr⟩
end Go.Fw
