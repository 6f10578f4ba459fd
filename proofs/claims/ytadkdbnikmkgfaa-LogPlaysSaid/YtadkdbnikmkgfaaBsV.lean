import Derived.Test.YtadkdbnikmkgfaaBsU
import Derived.Test.YtadkdbnikmkgfaaFxA
import Derived.Test.YtadkdbnikmkgfaaCd
set_option linter.unusedSimpArgs false
set_option linter.unusedVariables false
namespace Go.Fw
open Go.Proofs
structure Ask where
  kind : Int
  inst : Int × Int
  cel : Cel
  upto : Dp
def Ask.cs (a : Ask) : List Value := .int .i64 a.kind :: (pc a.inst ++ (a.cel.cs ++ dv a.upto))
theorem Ask.len (a : Ask) : a.cs.length = 31 := rfl
theorem Ask.all (a : Ask) : a.cs.take 31 = a.cs := rfl
theorem Ask.g0 (a : Ask) : a.cs[0]? = some (.int .i64 a.kind) := rfl
theorem Ask.sub_inst (a : Ask) : (a.cs.drop 1).take 2 = pc a.inst := rfl
theorem Ask.sub_cel (a : Ask) : (a.cs.drop 3).take 21 = a.cel.cs := rfl
theorem Ask.sub_upto (a : Ask) : (a.cs.drop 24).take 7 = dv a.upto := rfl
attribute [go_sem] Ask.len Ask.all Ask.g0 Ask.sub_inst Ask.sub_cel Ask.sub_upto
theorem law_at_s (r s : Int) (m : Mem) : MC Try.prog n_law16_at [.int .i64 r, .int .i64 s] m fun v m' => v = pv (r, s) ∧ Fr m m' [] := by
  refine law16_at_go (by simp [Try.f33]) ?_
  have H := Hp.refl m []
  simp (disch := omega) only [go_sem, undef]
  repeat' (first
    | (refine new_H H fun _ _ _ _ H => ?_; simp (disch := omega) only [go_sem, undef, H.hs, *])
    | (refine gQ_split (fun hq => ?_) (fun hq => ?_) <;> (try simp only [Bool.not_true, Bool.not_false] at hq) <;> simp (disch := omega) only [go_sem, undef, H.hs, *])
    | (refine condB_split (fun hq => ?_) (fun hq => ?_) <;> simp (disch := omega) only [go_sem, undef, H.hs, *])
    | (refine wr0 H fun _ _ H => ?_; simp (disch := omega) only [go_sem, undef, H.hs, *])
    | (refine wr1 H fun _ _ H => ?_; simp (disch := omega) only [go_sem, undef, H.hs, *])
    | (refine wr2 H fun _ _ H => ?_; simp (disch := omega) only [go_sem, undef, H.hs, *])
    | (refine wr3 H fun _ _ H => ?_; simp (disch := omega) only [go_sem, undef, H.hs, *])
    | (refine stw0 H rfl rfl fun _ _ H => ?_; simp (disch := omega) only [go_sem, undef, H.hs, *])
    | (refine stw1 H rfl rfl fun _ _ H => ?_; simp (disch := omega) only [go_sem, undef, H.hs, *]))
  all_goals exact ⟨rfl, H.fr⟩
theorem law_light_s (c : Cel) (m : Mem) : MC Try.prog n_law16_light [c.v] m fun v m' => (∃ b, v = .bool b) ∧ Fr m m' [] := by
  refine law16_light_go (by simp [Try.f33]) ?_
  have H := Hp.refl m []
  simp (disch := omega) only [go_sem, undef]
  repeat' (first
    | (refine new_H H fun _ _ _ _ H => ?_; simp (disch := omega) only [go_sem, undef, H.hs, *])
    | (refine gQ_split (fun hq => ?_) (fun hq => ?_) <;> (try simp only [Bool.not_true, Bool.not_false] at hq) <;> simp (disch := omega) only [go_sem, undef, H.hs, *])
    | (refine condB_split (fun hq => ?_) (fun hq => ?_) <;> simp (disch := omega) only [go_sem, undef, H.hs, *])
    | (refine wr0 H fun _ _ H => ?_; simp (disch := omega) only [go_sem, undef, H.hs, *])
    | (refine wr1 H fun _ _ H => ?_; simp (disch := omega) only [go_sem, undef, H.hs, *])
    | (refine wr2 H fun _ _ H => ?_; simp (disch := omega) only [go_sem, undef, H.hs, *])
    | (refine wr3 H fun _ _ H => ?_; simp (disch := omega) only [go_sem, undef, H.hs, *])
    | (refine stw0 H rfl rfl fun _ _ H => ?_; simp (disch := omega) only [go_sem, undef, H.hs, *])
    | (refine stw1 H rfl rfl fun _ _ H => ?_; simp (disch := omega) only [go_sem, undef, H.hs, *]))
  all_goals exact ⟨⟨_, rfl⟩, H.fr⟩
theorem take_ext {α : Type} {l r : List α} {k : Nat} (h : l.take k = r.take k) (h1 : k < l.length) (h2 : k < r.length) (he : l[k] = r[k]) : l.take (k + 1) = r.take (k + 1) := by
  rw [List.take_succ_eq_append_getElem h1, List.take_succ_eq_append_getElem h2, h, he]
theorem same_Inst_s {u v : Value} {l r : List (Int × Int)} {m : Mem} (hu : RdS 2 pc m u l) (hv : RdS 2 pc m v r) (hl : l.length < 2 ^ 40) (hr : r.length < 2 ^ 40) :
    MC Try.prog n_book_Same_api_Inst [u, v] m fun v m' => v = .bool (decide (l = r)) ∧ Fr m m' [] := by
  obtain ⟨a, c, rfl⟩ := hu.form
  obtain ⟨b, d, rfl⟩ := hv.form
  refine book_Same_api_Inst_go (by simp [Try.f33]) ?_
  simp (disch := omega) only [go_sem, undef]
  refine condB_split (fun h => ?_) (fun h => ?_)
  · have hlen : l.length = r.length := by simp only [decide_eq_true_eq] at h; omega
    simp (disch := omega) only [go_sem, undef, h]
    refine loopQ_intro (fun n E m' => ∃ k, k ≤ l.length ∧ n = l.length - k ∧ E = [(0, .slice a l.length c), (1, .slice b r.length d), (5, .int .i64 (k : Nat))] ∧ m' = m ∧ l.take k = r.take k) l.length rfl ⟨0, by omega, by omega, rfl, rfl, rfl⟩ ?_
    rintro n E m' ⟨k, hk, rfl, rfl, rfl, hpre⟩
    simp (disch := omega) only [go_sem, undef]
    refine condB_dec (fun h => ?_) (fun h => ?_)
    · have hlt : k < l.length := by omega
      have hlt2 : k < r.length := by omega
      obtain ⟨b1, o1, rfl, hc1, _⟩ := hu.at hlt (by omega)
      obtain ⟨b2, o2, rfl, hc2, _⟩ := hv.at hlt2 (by omega)
      simp (disch := omega) only [go_sem, hc1, hc2]
      refine condB_split (fun e => ?_) (fun e => ?_)
      · simp (disch := omega) only [go_sem, undef]
        have e' : l[k] = r[k] := by simpa using e
        exact handN_intro (l.length - (k + 1)) (by omega) ⟨k + 1, by omega, rfl, rfl, rfl, take_ext hpre hlt (by omega) e'⟩
      · simp (disch := omega) only [go_sem, undef]
        exact ⟨by rw [decide_eq_false]; rintro rfl; simp at e, Fr.refl _ _⟩
    · simp (disch := omega) only [go_sem, undef]
      refine ⟨?_, Fr.refl _ _⟩
      rw [decide_eq_true]
      rw [List.take_of_length_le (by omega), List.take_of_length_le (by omega)] at hpre
      exact hpre
  · have hne : (l.length : Int) ≠ r.length := by simpa using h
    simp (disch := omega) only [go_sem, undef, h]
    exact ⟨by rw [decide_eq_false]; rintro rfl; exact hne rfl, Fr.refl _ _⟩
theorem trim00 : trimD Dp.zero Dp.zero = Dp.zero := by decide
abbrev c1 (n : Int) : Cel := { Cel.zero with st := n }
theorem LogIs.ex {m : Mem} {lb r : Nat} {cut : Dp} {l : LogL} (h : LogIs m lb r cut l) : ∀ b ∈ [lb, r], m b ≠ none := by
  intro b hb
  simp at hb
  rcases hb with rfl | rfl
  · rw [h.box]; exact Option.some_ne_none _
  · exact h.map.there
theorem LogIs.exr {m : Mem} {lb r : Nat} {cut : Dp} {l : LogL} (h : LogIs m lb r cut l) : ∀ b ∈ [r], m b ≠ none := fun b hb => h.ex b (List.mem_cons_of_mem _ hb)
theorem perm_one {α : Type} {l : List α} {a : α} (h : l.Perm [a]) : l = [a] := List.perm_singleton.1 h
theorem law_Runs_s (m : Mem) : MC Try.prog n_law16_LogRuns [] m fun v m' => v = .bool true ∧ Fr m m' [] := by
  refine law16_LogRuns_go (by simp [Try.f33]) ?_
  have H := Hp.refl m []
  simp (disch := omega) only [go_sem, undef]
  refine call_R H (log_New_s _ _) fun v M ⟨lb, r, e, hL, hlb, hr⟩ f H => ?_
  subst e
  rw [trim00] at hL
  have F := H.fr
  have H := Hp.refl M [lb, r] hL.ex
  simp (disch := omega) only [go_sem, undef, Option.isNone_some]
  refine call_H H (law_at_s _ _ _) fun M f1 H => ?_
  have hL := hL.frame0 f1
  simp (disch := omega) only [go_sem, undef]
  refine call_T H (log_Set_s hL (1, 2) _) (by simp) (fun v M h => h.2.exr) fun v M ⟨e, hL⟩ f2 H => ?_
  rw [show decide (mayS Dp.zero [] (1, 2) (c1 1)) = true from by decide] at e
  subst e
  rw [if_pos (show mayS Dp.zero [] (1, 2) (c1 1) from by decide), show upC (1, 2) (c1 1) [] = [((1, 2), c1 1)] from rfl] at hL
  simp (disch := omega) only [go_sem, undef]
  refine call_H H (law_at_s _ _ _) fun M f1 H => ?_
  have hL := hL.frame0 f1
  simp (disch := omega) only [go_sem, undef]
  refine call_T H (log_Set_s hL (1, 2) _) (by simp) (fun v M h => h.2.exr) fun v M ⟨e, hL⟩ f2 H => ?_
  rw [show decide (mayS Dp.zero [((1, 2), c1 1)] (1, 2) (c1 3)) = true from by decide] at e
  subst e
  rw [if_pos (show mayS Dp.zero [((1, 2), c1 1)] (1, 2) (c1 3) from by decide), show upC (1, 2) (c1 3) [((1, 2), c1 1)] = [((1, 2), c1 3)] from by decide] at hL
  simp (disch := omega) only [go_sem, undef]
  refine call_H H (law_at_s _ _ _) fun M f1 H => ?_
  have hL := hL.frame0 f1
  simp (disch := omega) only [go_sem, undef]
  refine call_T H (log_Set_s hL (1, 2) _) (by simp) (fun v M h => h.2.exr) fun v M ⟨e, hL⟩ f2 H => ?_
  rw [show decide (mayS Dp.zero [((1, 2), c1 3)] (1, 2) (c1 2)) = false from by decide] at e
  subst e
  rw [if_neg (show ¬ mayS Dp.zero [((1, 2), c1 3)] (1, 2) (c1 2) from by decide)] at hL
  simp (disch := omega) only [go_sem, undef]
  refine call_R H (log_Top_s hL (by simp only [keysC]; decide)) fun v M ⟨l', hp, e⟩ f3 H => ?_
  have hL := hL.frame0 f3
  obtain rfl : l' = [(1, 2)] := perm_one hp
  subst e
  rw [show topD Dp.zero [(1, 2)] = Dp.up Dp.zero 1 2 from by decide]
  simp (disch := omega) only [go_sem, undef]
  refine new_H H fun b M _ f4 H => ?_
  have hL := hL.frame0 f4
  simp (disch := omega) only [go_sem, undef]
  refine stw0 H rfl rfl fun M f5 H => ?_
  have hn := H.nw0
  have hL := hL.frame f5 (fun h => hn.2 (by simp at h; simp [h])) (fun h => hn.2 (by simp at h; simp [h]))
  simp (disch := omega) only [go_sem, undef]
  refine call_T H (log_Trim_s hL _) (by simp) (fun v M h => h.2.ex) fun v M ⟨e, hL⟩ f6 H => ?_
  subst e
  rw [show trimD Dp.zero (Dp.up (Dp.up Dp.zero 0 0) 1 5) = Dp.up Dp.zero 1 5 from by decide, show [((1, 2), c1 3)].filter (fun p : (Int × Int) × Cel => decide (¬ goneD (Dp.up Dp.zero 1 5) p.1)) = [] from by decide] at hL
  simp (disch := omega) only [go_sem, undef, H.hs, show decide (Dp.up Dp.zero 1 2 = Dp.up (Dp.up Dp.zero 0 0) 1 2) = true from by decide]
  refine call_R H (log_List_s hL (by simp)) fun v M ⟨l', hp, _, ho, _⟩ f7 H => ?_
  have hL := hL.frame0 f7
  obtain rfl : l' = [] := List.perm_nil.1 hp
  obtain ⟨a, c, rfl⟩ := ho.form
  simp (disch := omega) only [go_sem, undef, show decide (((0 : Nat) : Int) = 0) = true from rfl]
  refine call_H H (law_at_s _ _ _) fun M f8 H => ?_
  have hL := hL.frame0 f8
  simp (disch := omega) only [go_sem, undef]
  refine call_H H (log_Gone_s hL (1, 5)) fun M f9 H => ?_
  have hL := hL.frame0 f9
  simp (disch := omega) only [go_sem, undef, show decide (rightI (1, 5) ∧ 5 ≤ (Dp.up Dp.zero 1 5).g (Int.toNat 1)) = true from by decide]
  refine call_H H (law_at_s _ _ _) fun M f10 H => ?_
  have hL := hL.frame0 f10
  simp (disch := omega) only [go_sem, undef]
  refine call_H H (log_Gone_s hL (1, 6)) fun M f11 H => ?_
  simp (disch := omega) only [go_sem, undef, show decide (rightI (1, 6) ∧ 6 ≤ (Dp.up Dp.zero 1 5).g (Int.toNat 1)) = false from by decide]
  exact ⟨rfl, F.trans H.fr (by simp [hlb, hr])⟩
end Go.Fw
