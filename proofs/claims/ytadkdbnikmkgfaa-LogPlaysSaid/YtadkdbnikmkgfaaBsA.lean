import Derived.Test.YtadkdbnikmkgfaaFxA
import Derived.Test.YtadkdbnikmkgfaaCd
set_option linter.unusedSimpArgs false
set_option linter.unusedVariables false
namespace Go.Fw
open Go.Proofs
abbrev lt2 (x y : Int × Int) : Prop := x.1 < y.1 ∨ x.1 = y.1 ∧ x.2 < y.2
abbrev rightI (p : Int × Int) : Prop := 0 ≤ p.1 ∧ p.1 < 7 ∧ 1 ≤ p.2 ∧ p.2 ≤ 1073741824
abbrev rightB (p : Int × Int) : Prop := 0 ≤ p.1 ∧ p.1 ≤ 1073741824 ∧ 0 ≤ p.2 ∧ p.2 < 7
abbrev rightD (d : Dp) : Prop := ∀ i, 0 ≤ d i ∧ d i ≤ 1073741824
abbrev rightA (a : Att) : Prop := rightD a.deps ∧ 0 ≤ a.seq ∧ a.seq ≤ 1099511627776
def Cmd.bare (c : Cmd) : Cmd := { kind := c.kind, client := c.client, seq := c.seq, key := c.key, fin := if c.kind = 5 then c.fin else noB, old := if c.kind = 4 then c.old else noB, val := if c.kind = 2 ∨ c.kind = 4 then c.val else noB }
def Cmd.right (c : Cmd) : Prop := c = Cmd.zero ∨ (1 ≤ c.kind ∧ c.kind ≤ 5 ∧ 1 ≤ c.client ∧ c.client ≤ 8 ∧ 1 ≤ c.seq ∧ c.seq ≤ 1099511627776 ∧ c = c.bare ∧ c.key.size ≤ 16 ∧ c.fin.size ≤ 16 ∧ c.old.size ≤ 64 ∧ c.val.size ≤ 64 ∧ (c.key ≠ noB ∨ c.kind = 5))
instance (c : Cmd) : Decidable c.right := by unfold Cmd.right; exact inferInstance

def Cel.right (c : Cel) : Prop := 0 ≤ c.st ∧ c.st ≤ 3 ∧ rightB c.pr ∧ rightB c.vo ∧ ¬ lt2 c.pr c.vo ∧ (c.same = true → c.st = 1 ∧ c.vo = (0, 0)) ∧ (c.st = 0 → c = { Cel.zero with pr := c.pr }) ∧ c.cmd.right ∧ rightA c.att
instance (c : Cel) : Decidable c.right := by unfold Cel.right; exact inferInstance
theorem Cel.zero_iff (c : Cel) : c = { Cel.zero with pr := c.pr } ↔ c.st = 0 ∧ c.vo = (0, 0) ∧ c.cmd = Cmd.zero ∧ c.att = Att.zero ∧ c.same = false := by
  cases c; simp
theorem inst_Right_s (p : Int × Int) (m : Mem) : MC Try.prog n_inst_Right [pv p] m fun v m' => v = .bool (decide (rightI p)) ∧ Fr m m' [] := by
  refine inst_Right_go (by simp [Try.f33]) ?_
  have H := Hp.refl m []
  simp (disch := omega) only [go_sem, undef]
  repeat' (first
    | (refine new_H H fun _ _ _ _ H => ?_; simp (disch := omega) only [go_sem, undef, H.hs, *])
    | (refine gQ_split (fun hq => ?_) (fun hq => ?_) <;> (try simp only [Bool.not_true, Bool.not_false] at hq) <;> simp (disch := omega) only [go_sem, undef, H.hs, *])
    | (refine condB_split (fun hq => ?_) (fun hq => ?_) <;> simp (disch := omega) only [go_sem, undef, H.hs, *])
    | (refine wr0 H fun _ _ H => ?_; simp (disch := omega) only [go_sem, undef, H.hs, *])
    | (refine wr1 H fun _ _ H => ?_; simp (disch := omega) only [go_sem, undef, H.hs, *])
    | (refine wr2 H fun _ _ H => ?_; simp (disch := omega) only [go_sem, undef, H.hs, *])
    | (refine wr3 H fun _ _ H => ?_; simp (disch := omega) only [go_sem, undef, H.hs, *])
    | (refine stw0 H rfl rfl fun _ _ H => ?_; simp (disch := omega) only [go_sem, undef, H.hs, *])
    | (refine stw1 H rfl rfl fun _ _ H => ?_; simp (disch := omega) only [go_sem, undef, H.hs, *]))
  all_goals (try simp only [decide_eq_true_eq, decide_eq_false_iff_not] at *)
  all_goals exact ⟨by first | rfl | (simp only [Value.bool.injEq, decide_eq_true_eq, eq_comm (a := true), eq_comm (a := false), decide_eq_false_iff_not, decide_eq_decide]; grind []), H.fr⟩
theorem inst_RightBallot_s (p : Int × Int) (m : Mem) : MC Try.prog n_inst_RightBallot [pv p] m fun v m' => v = .bool (decide (rightB p)) ∧ Fr m m' [] := by
  refine inst_RightBallot_go (by simp [Try.f33]) ?_
  have H := Hp.refl m []
  simp (disch := omega) only [go_sem, undef]
  repeat' (first
    | (refine new_H H fun _ _ _ _ H => ?_; simp (disch := omega) only [go_sem, undef, H.hs, *])
    | (refine gQ_split (fun hq => ?_) (fun hq => ?_) <;> (try simp only [Bool.not_true, Bool.not_false] at hq) <;> simp (disch := omega) only [go_sem, undef, H.hs, *])
    | (refine condB_split (fun hq => ?_) (fun hq => ?_) <;> simp (disch := omega) only [go_sem, undef, H.hs, *])
    | (refine wr0 H fun _ _ H => ?_; simp (disch := omega) only [go_sem, undef, H.hs, *])
    | (refine wr1 H fun _ _ H => ?_; simp (disch := omega) only [go_sem, undef, H.hs, *])
    | (refine wr2 H fun _ _ H => ?_; simp (disch := omega) only [go_sem, undef, H.hs, *])
    | (refine wr3 H fun _ _ H => ?_; simp (disch := omega) only [go_sem, undef, H.hs, *])
    | (refine stw0 H rfl rfl fun _ _ H => ?_; simp (disch := omega) only [go_sem, undef, H.hs, *])
    | (refine stw1 H rfl rfl fun _ _ H => ?_; simp (disch := omega) only [go_sem, undef, H.hs, *]))
  all_goals (try simp only [decide_eq_true_eq, decide_eq_false_iff_not] at *)
  all_goals exact ⟨by first | rfl | (simp only [Value.bool.injEq, decide_eq_true_eq, eq_comm (a := true), eq_comm (a := false), decide_eq_false_iff_not, decide_eq_decide]; grind []), H.fr⟩
theorem inst_Less_s (p q : Int × Int) (m : Mem) : MC Try.prog n_inst_Less [pv p, pv q] m fun v m' => v = .bool (decide (lt2 p q)) ∧ Fr m m' [] := by
  refine inst_Less_go (by simp [Try.f33]) ?_
  have H := Hp.refl m []
  simp (disch := omega) only [go_sem, undef]
  repeat' (first
    | (refine new_H H fun _ _ _ _ H => ?_; simp (disch := omega) only [go_sem, undef, H.hs, *])
    | (refine gQ_split (fun hq => ?_) (fun hq => ?_) <;> (try simp only [Bool.not_true, Bool.not_false] at hq) <;> simp (disch := omega) only [go_sem, undef, H.hs, *])
    | (refine condB_split (fun hq => ?_) (fun hq => ?_) <;> simp (disch := omega) only [go_sem, undef, H.hs, *])
    | (refine wr0 H fun _ _ H => ?_; simp (disch := omega) only [go_sem, undef, H.hs, *])
    | (refine wr1 H fun _ _ H => ?_; simp (disch := omega) only [go_sem, undef, H.hs, *])
    | (refine wr2 H fun _ _ H => ?_; simp (disch := omega) only [go_sem, undef, H.hs, *])
    | (refine wr3 H fun _ _ H => ?_; simp (disch := omega) only [go_sem, undef, H.hs, *])
    | (refine stw0 H rfl rfl fun _ _ H => ?_; simp (disch := omega) only [go_sem, undef, H.hs, *])
    | (refine stw1 H rfl rfl fun _ _ H => ?_; simp (disch := omega) only [go_sem, undef, H.hs, *]))
  all_goals (try simp only [decide_eq_true_eq, decide_eq_false_iff_not] at *)
  all_goals exact ⟨by first | rfl | (simp only [Value.bool.injEq, decide_eq_true_eq, eq_comm (a := true), eq_comm (a := false), decide_eq_false_iff_not, decide_eq_decide]; grind []), H.fr⟩
theorem inst_Below_s (p q : Int × Int) (m : Mem) : MC Try.prog n_inst_Below [pv p, pv q] m fun v m' => v = .bool (decide (lt2 p q)) ∧ Fr m m' [] := by
  refine inst_Below_go (by simp [Try.f33]) ?_
  have H := Hp.refl m []
  simp (disch := omega) only [go_sem, undef]
  repeat' (first
    | (refine new_H H fun _ _ _ _ H => ?_; simp (disch := omega) only [go_sem, undef, H.hs, *])
    | (refine gQ_split (fun hq => ?_) (fun hq => ?_) <;> (try simp only [Bool.not_true, Bool.not_false] at hq) <;> simp (disch := omega) only [go_sem, undef, H.hs, *])
    | (refine condB_split (fun hq => ?_) (fun hq => ?_) <;> simp (disch := omega) only [go_sem, undef, H.hs, *])
    | (refine wr0 H fun _ _ H => ?_; simp (disch := omega) only [go_sem, undef, H.hs, *])
    | (refine wr1 H fun _ _ H => ?_; simp (disch := omega) only [go_sem, undef, H.hs, *])
    | (refine wr2 H fun _ _ H => ?_; simp (disch := omega) only [go_sem, undef, H.hs, *])
    | (refine wr3 H fun _ _ H => ?_; simp (disch := omega) only [go_sem, undef, H.hs, *])
    | (refine stw0 H rfl rfl fun _ _ H => ?_; simp (disch := omega) only [go_sem, undef, H.hs, *])
    | (refine stw1 H rfl rfl fun _ _ H => ?_; simp (disch := omega) only [go_sem, undef, H.hs, *]))
  all_goals (try simp only [decide_eq_true_eq, decide_eq_false_iff_not] at *)
  all_goals exact ⟨by first | rfl | (simp only [Value.bool.injEq, decide_eq_true_eq, eq_comm (a := true), eq_comm (a := false), decide_eq_false_iff_not, decide_eq_decide]; grind []), H.fr⟩
theorem cmd_within_s (a b : Int) (m : Mem) : MC Try.prog n_cmd_within [.int .i64 a, .int .i64 b] m fun v m' => v = .bool (decide (1 ≤ a ∧ a ≤ b)) ∧ Fr m m' [] := by
  refine cmd_within_go (by simp [Try.f33]) ?_
  have H := Hp.refl m []
  simp (disch := omega) only [go_sem, undef]
  repeat' (first
    | (refine new_H H fun _ _ _ _ H => ?_; simp (disch := omega) only [go_sem, undef, H.hs, *])
    | (refine gQ_split (fun hq => ?_) (fun hq => ?_) <;> (try simp only [Bool.not_true, Bool.not_false] at hq) <;> simp (disch := omega) only [go_sem, undef, H.hs, *])
    | (refine condB_split (fun hq => ?_) (fun hq => ?_) <;> simp (disch := omega) only [go_sem, undef, H.hs, *])
    | (refine wr0 H fun _ _ H => ?_; simp (disch := omega) only [go_sem, undef, H.hs, *])
    | (refine wr1 H fun _ _ H => ?_; simp (disch := omega) only [go_sem, undef, H.hs, *])
    | (refine wr2 H fun _ _ H => ?_; simp (disch := omega) only [go_sem, undef, H.hs, *])
    | (refine wr3 H fun _ _ H => ?_; simp (disch := omega) only [go_sem, undef, H.hs, *])
    | (refine stw0 H rfl rfl fun _ _ H => ?_; simp (disch := omega) only [go_sem, undef, H.hs, *])
    | (refine stw1 H rfl rfl fun _ _ H => ?_; simp (disch := omega) only [go_sem, undef, H.hs, *]))
  all_goals (try simp only [decide_eq_true_eq, decide_eq_false_iff_not] at *)
  all_goals exact ⟨by first | rfl | (simp only [Value.bool.injEq, decide_eq_true_eq, eq_comm (a := true), eq_comm (a := false), decide_eq_false_iff_not, decide_eq_decide]; grind []), H.fr⟩
theorem cmd_bare_s (c : Cmd) (m : Mem) : MC Try.prog n_cmd_bare [c.v] m fun v m' => v = c.bare.v ∧ Fr m m' [] := by
  refine cmd_bare_go (by simp [Try.f33]) ?_
  have H := Hp.refl m []
  simp (disch := omega) only [go_sem, undef]
  repeat' (first
    | (refine new_H H fun _ _ _ _ H => ?_; simp (disch := omega) only [go_sem, undef, H.hs, *])
    | (refine gQ_split (fun hq => ?_) (fun hq => ?_) <;> (try simp only [Bool.not_true, Bool.not_false] at hq) <;> simp (disch := omega) only [go_sem, undef, H.hs, *])
    | (refine condB_split (fun hq => ?_) (fun hq => ?_) <;> simp (disch := omega) only [go_sem, undef, H.hs, *])
    | (refine wr0 H fun _ _ H => ?_; simp (disch := omega) only [go_sem, undef, H.hs, *])
    | (refine wr1 H fun _ _ H => ?_; simp (disch := omega) only [go_sem, undef, H.hs, *])
    | (refine wr2 H fun _ _ H => ?_; simp (disch := omega) only [go_sem, undef, H.hs, *])
    | (refine wr3 H fun _ _ H => ?_; simp (disch := omega) only [go_sem, undef, H.hs, *])
    | (refine stw0 H rfl rfl fun _ _ H => ?_; simp (disch := omega) only [go_sem, undef, H.hs, *])
    | (refine stw1 H rfl rfl fun _ _ H => ?_; simp (disch := omega) only [go_sem, undef, H.hs, *]))
  all_goals (simp only [decide_eq_true_eq, decide_eq_false_iff_not] at *)
  all_goals exact ⟨by simp [Cmd.bare, *], H.fr⟩
theorem cmd_Right_s (c : Cmd) (m : Mem) : MC Try.prog n_cmd_Right [c.v] m fun v m' => v = .bool (decide c.right) ∧ Fr m m' [] := by
  refine cmd_Right_go (by simp [Try.f33]) ?_
  have H := Hp.refl m []
  simp (disch := omega) only [go_sem, undef]
  repeat' (first
    | (refine new_H H fun _ _ _ _ H => ?_; simp (disch := omega) only [go_sem, undef, H.hs, *])
    | (refine call_H H (cmd_within_s _ _ _) fun _ _ H => ?_; simp (disch := omega) only [go_sem, undef, H.hs, *])
    | (refine call_H H (cmd_bare_s _ _) fun _ _ H => ?_; simp (disch := omega) only [go_sem, undef, H.hs, *])
    | (refine gQ_split (fun hq => ?_) (fun hq => ?_) <;> (try simp only [Bool.not_true, Bool.not_false] at hq) <;> simp (disch := omega) only [go_sem, undef, H.hs, *])
    | (refine condB_split (fun hq => ?_) (fun hq => ?_) <;> simp (disch := omega) only [go_sem, undef, H.hs, *])
    | (refine wr0 H fun _ _ H => ?_; simp (disch := omega) only [go_sem, undef, H.hs, *])
    | (refine wr1 H fun _ _ H => ?_; simp (disch := omega) only [go_sem, undef, H.hs, *])
    | (refine wr2 H fun _ _ H => ?_; simp (disch := omega) only [go_sem, undef, H.hs, *])
    | (refine wr3 H fun _ _ H => ?_; simp (disch := omega) only [go_sem, undef, H.hs, *])
    | (refine stw0 H rfl rfl fun _ _ H => ?_; simp (disch := omega) only [go_sem, undef, H.hs, *])
    | (refine stw1 H rfl rfl fun _ _ H => ?_; simp (disch := omega) only [go_sem, undef, H.hs, *]))
  all_goals (try simp only [decide_eq_true_eq, decide_eq_false_iff_not] at *)
  all_goals exact ⟨by first | rfl | (simp only [Value.bool.injEq, decide_eq_true_eq, eq_comm (a := true), eq_comm (a := false), decide_eq_false_iff_not, decide_eq_decide]; grind [Cmd.right]), H.fr⟩
theorem deps_Right_s (a : Att) (m : Mem) : MC Try.prog n_deps_Right [a.v] m fun v m' => v = .bool (decide (rightA a)) ∧ Fr m m' [] := by
  refine deps_Right_go (by simp [Try.f33]) ?_
  have H := Hp.refl m []
  simp (disch := omega) only [go_sem, undef]
  refine new_H H fun b M hb f H => ?_
  simp (disch := omega) only [go_sem, undef, H.hs]
  refine loopQ_intro (fun n E m' => ∃ k : Nat, k ≤ 7 ∧ n = 7 - k ∧ E = [(1, .pointer (some ⟨b, 0, none⟩)), (6, .agg (dv a.deps).toArray), (7, .int .i64 k)] ∧ (∀ i : Fin 7, i.val < k → 0 ≤ a.deps i ∧ a.deps i ≤ 1073741824) ∧ Hp m m' [] [(b, Obj.cells a.cs.toArray T_api_Attr)]) 7 rfl ⟨0, by omega, rfl, rfl, by simp, H⟩ ?_
  clear H f hb
  rintro n E m' ⟨k, hk, rfl, rfl, hall, H⟩
  simp (disch := omega) only [go_sem, undef, H.hs]
  refine condB_dec (fun h => ?_) (fun h => ?_)
  · have hk7 : k < 7 := by omega
    simp (disch := omega) only [go_sem, undef, H.hs]
    repeat' (first
      | (refine new_H H fun _ _ _ _ H => ?_; simp (disch := omega) only [go_sem, undef, H.hs, *])
      | (refine gQ_split (fun hq => ?_) (fun hq => ?_) <;> (try simp only [Bool.not_true, Bool.not_false] at hq) <;> simp (disch := omega) only [go_sem, undef, H.hs, *])
      | (refine condB_split (fun hq => ?_) (fun hq => ?_) <;> simp (disch := omega) only [go_sem, undef, H.hs, *])
      | (refine wr0 H fun _ _ H => ?_; simp (disch := omega) only [go_sem, undef, H.hs, *])
      | (refine wr1 H fun _ _ H => ?_; simp (disch := omega) only [go_sem, undef, H.hs, *])
      | (refine wr2 H fun _ _ H => ?_; simp (disch := omega) only [go_sem, undef, H.hs, *])
      | (refine wr3 H fun _ _ H => ?_; simp (disch := omega) only [go_sem, undef, H.hs, *])
      | (refine stw0 H rfl rfl fun _ _ H => ?_; simp (disch := omega) only [go_sem, undef, H.hs, *])
      | (refine stw1 H rfl rfl fun _ _ H => ?_; simp (disch := omega) only [go_sem, undef, H.hs, *]))
    all_goals (try simp only [Dp.g_lt _ hk7] at *)
    · exact ⟨by simp [rightA]; intro h1; simp at hq; exact absurd (h1 ⟨k, hk7⟩) (by omega), H.fr⟩
    · refine handN_intro (7 - (k + 1)) (by omega) ⟨k + 1, by omega, rfl, rfl, fun i hi => ?_, H⟩
      simp only [decide_eq_false_iff_not] at *
      rcases Nat.lt_or_eq_of_le (Nat.le_of_lt_succ hi) with h | h
      · exact hall i h
      · have : i = ⟨k, hk7⟩ := Fin.ext h
        subst this; omega
    · exact ⟨by simp [rightA]; intro h1; simp at hq; exact absurd (h1 ⟨k, hk7⟩) (by omega), H.fr⟩
  · simp (disch := omega) only [go_sem, undef, H.hs]
    repeat' (first
      | (refine new_H H fun _ _ _ _ H => ?_; simp (disch := omega) only [go_sem, undef, H.hs, *])
      | (refine gQ_split (fun hq => ?_) (fun hq => ?_) <;> (try simp only [Bool.not_true, Bool.not_false] at hq) <;> simp (disch := omega) only [go_sem, undef, H.hs, *])
      | (refine condB_split (fun hq => ?_) (fun hq => ?_) <;> simp (disch := omega) only [go_sem, undef, H.hs, *])
      | (refine wr0 H fun _ _ H => ?_; simp (disch := omega) only [go_sem, undef, H.hs, *])
      | (refine wr1 H fun _ _ H => ?_; simp (disch := omega) only [go_sem, undef, H.hs, *])
      | (refine wr2 H fun _ _ H => ?_; simp (disch := omega) only [go_sem, undef, H.hs, *])
      | (refine wr3 H fun _ _ H => ?_; simp (disch := omega) only [go_sem, undef, H.hs, *])
      | (refine stw0 H rfl rfl fun _ _ H => ?_; simp (disch := omega) only [go_sem, undef, H.hs, *])
      | (refine stw1 H rfl rfl fun _ _ H => ?_; simp (disch := omega) only [go_sem, undef, H.hs, *]))
    all_goals (try simp only [decide_eq_true_eq, decide_eq_false_iff_not] at *)
    all_goals exact ⟨by first | rfl | (simp only [Value.bool.injEq, decide_eq_true_eq, eq_comm (a := true), eq_comm (a := false), decide_eq_false_iff_not, decide_eq_decide]; grind []), H.fr⟩
end Go.Fw
