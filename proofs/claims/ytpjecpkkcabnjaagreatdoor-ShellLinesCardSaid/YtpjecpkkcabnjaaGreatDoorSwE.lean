import Derived.Test.YtpjecpkkcabnjaaGreatDoorSy
set_option linter.unusedVariables false
set_option linter.unusedSimpArgs false
/-! Numbers and texts of a step: where they lie. -/
namespace Go.Fw
open Go.Proofs Go.Sh
variable {m m0 M : Mem} {S : List Nat} {L : List As}
/-- pointers into a step's block -/
def pcB (sb : Nat) (o : Nat) : List Value := [.pointer (some ⟨sb, o, none⟩)]
theorem pcB_len (sb o : Nat) : (pcB sb o).length = 1 := rfl
def nOf (k : Int) : List Nat := if k = 1 then [3, 1] else if k = 7 then [1, 2] else [1]
def tOf (k : Int) : List Nat := if k = 2 then [7, 10] else if k = 4 then [7, 9, 10] else if k = 5 then [7, 8] else [7]
abbrev ptA (T : TypeId) (sb : Nat) (v : Value) (os : List Nat) : As := ownA T 1 v os.length (os.flatMap (pcB sb))
theorem ptA_rd {T : TypeId} {sb : Nat} {v : Value} {os : List Nat} (h : (ptA T sb v os).p m) : RdS 1 (pcB sb) m v os := Own.rds (by omega) (pcB_len sb) h
set_option maxHeartbeats 1000000 in
theorem numbers_s {s : Stp} {a : Option Addr} {n c sb : Nat} (hb : m sb = some (.cells (stc s a n c).toArray T_api_Step (0, 0))) :
    CN Tryz.prog n_shell_numbers [.pointer (some ⟨sb, 0, none⟩)] m fun v A => A = ptA T_P_int sb v (nOf s.kind) := by
  refine shell_numbers_go (by simp [Tryz.f33]) ?_
  have H := Hq.refl m []
  unfold nOf
  by_cases h1 : s.kind = 1
  · simp (disch := omega) only [go_sem, undef, hb, decide_eq_true h1]
    refine newQ H fun b M f H => ?_
    simp (disch := omega) only [go_sem, undef]
    have H := Hq.ofCell (size := 1) (n := 2) (cap := 2) (xs := ([3, 1] : List Nat).flatMap (pcB sb)) (tail := []) H rfl rfl
    rw [if_pos h1]
    exact ⟨_, rfl, cn_end H rfl⟩
  · by_cases h7 : s.kind = 7
    · simp (disch := omega) only [go_sem, undef, hb, decide_eq_false h1, decide_eq_true h7]
      refine newQ H fun b M f H => ?_
      simp (disch := omega) only [go_sem, undef]
      have H := Hq.ofCell (size := 1) (n := 2) (cap := 2) (xs := ([1, 2] : List Nat).flatMap (pcB sb)) (tail := []) H rfl rfl
      rw [if_neg h1, if_pos h7]
      exact ⟨_, rfl, cn_end H rfl⟩
    · simp (disch := omega) only [go_sem, undef, hb, decide_eq_false h1, decide_eq_false h7]
      refine newQ H fun b M f H => ?_
      simp (disch := omega) only [go_sem, undef]
      have H := Hq.ofCell (size := 1) (n := 1) (cap := 1) (xs := ([1] : List Nat).flatMap (pcB sb)) (tail := []) H rfl rfl
      rw [if_neg h1, if_neg h7]
      exact ⟨_, rfl, cn_end H rfl⟩
set_option maxHeartbeats 1000000 in
theorem texts_s {s : Stp} {a : Option Addr} {n c sb : Nat} (hb : m sb = some (.cells (stc s a n c).toArray T_api_Step (0, 0))) :
    CN Tryz.prog n_shell_texts [.pointer (some ⟨sb, 4, none⟩)] m fun v A => A = ptA T_P_string sb v (tOf s.ck) := by
  refine shell_texts_go (by simp [Tryz.f33]) ?_
  have H := Hq.refl m []
  unfold tOf
  by_cases h1 : s.ck = 2
  · simp (disch := omega) only [go_sem, undef, hb, decide_eq_true h1]
    refine newQ H fun b M f H => ?_
    simp (disch := omega) only [go_sem, undef]
    have H := Hq.ofCell (size := 1) (n := 2) (cap := 2) (xs := ([7, 10] : List Nat).flatMap (pcB sb)) (tail := []) H rfl rfl
    rw [if_pos h1]
    exact ⟨_, rfl, cn_end H rfl⟩
  · by_cases h4 : s.ck = 4
    · simp (disch := omega) only [go_sem, undef, hb, decide_eq_false h1, decide_eq_true h4]
      refine newQ H fun b M f H => ?_
      simp (disch := omega) only [go_sem, undef]
      have H := Hq.ofCell (size := 1) (n := 3) (cap := 3) (xs := ([7, 9, 10] : List Nat).flatMap (pcB sb)) (tail := []) H rfl rfl
      rw [if_neg h1, if_pos h4]
      exact ⟨_, rfl, cn_end H rfl⟩
    · by_cases h5 : s.ck = 5
      · simp (disch := omega) only [go_sem, undef, hb, decide_eq_false h1, decide_eq_false h4, decide_eq_true h5]
        refine newQ H fun b M f H => ?_
        simp (disch := omega) only [go_sem, undef]
        have H := Hq.ofCell (size := 1) (n := 2) (cap := 2) (xs := ([7, 8] : List Nat).flatMap (pcB sb)) (tail := []) H rfl rfl
        rw [if_neg h1, if_neg h4, if_pos h5]
        exact ⟨_, rfl, cn_end H rfl⟩
      · simp (disch := omega) only [go_sem, undef, hb, decide_eq_false h1, decide_eq_false h4, decide_eq_false h5]
        refine newQ H fun b M f H => ?_
        simp (disch := omega) only [go_sem, undef]
        have H := Hq.ofCell (size := 1) (n := 1) (cap := 1) (xs := ([7] : List Nat).flatMap (pcB sb)) (tail := []) H rfl rfl
        rw [if_neg h1, if_neg h4, if_neg h5]
        exact ⟨_, rfl, cn_end H rfl⟩
end Go.Fw
