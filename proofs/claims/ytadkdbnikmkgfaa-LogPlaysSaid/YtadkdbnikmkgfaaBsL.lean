import Derived.Test.YtadkdbnikmkgfaaBsB
import Derived.Test.YtadkdbnikmkgfaaCdL
set_option linter.unusedSimpArgs false
set_option linter.unusedVariables false
namespace Go.Fw
open Go.Proofs
theorem pv_enc : KeyEnc true [.i .i64, .i .i64] pv where
  fit x := rfl
  eq x y := pc_eq x y
abbrev LogL := List ((Int × Int) × Cel)
def cv (l : LogL) : List ((Int × Int) × Value) := l.map fun p => (p.1, p.2.v)
def lkC (k : Int × Int) : LogL → Option Cel
  | [] => none
  | (a, c) :: r => if a = k then some c else lkC k r
def keysC (l : LogL) : List (Int × Int) := l.map (·.1)
def upC (k : Int × Int) (c : Cel) (l : LogL) : LogL := if k ∈ keysC l then l.map (fun p => if p.1 = k then (k, c) else p) else l ++ [(k, c)]
theorem keys_cv (l : LogL) : keysOf (cv l) = keysC l := by simp [keysOf, cv, keysC, List.map_map, Function.comp_def]
theorem upd_cv (k : Int × Int) (c : Cel) (l : LogL) : updM k c.v (cv l) = cv (upC k c l) := by
  unfold updM upC
  rw [keys_cv]
  split
  · simp only [cv, List.map_map]
    refine List.map_congr_left fun p _ => ?_
    simp only [Function.comp]
    split <;> rfl
  · simp [cv]
theorem del_cv (k : Int × Int) (l : LogL) : delM k (cv l) = cv (l.filter fun p => p.1 ≠ k) := by
  unfold delM cv
  rw [List.filter_map]; rfl
theorem lkC_none {k : Int × Int} : ∀ {l : LogL}, lkC k l = none ↔ k ∉ keysC l
  | [] => by simp [lkC, keysC]
  | (a, c) :: r => by
    have := lkC_none (k := k) (l := r)
    simp only [lkC, keysC, List.map_cons, List.mem_cons, not_or] at this ⊢
    split
    · rename_i e; subst e; simp
    · rename_i e; rw [this]; exact ⟨fun h => ⟨fun e' => e e'.symm, h⟩, fun h => h.2⟩
theorem lkC_mem {k : Int × Int} {c : Cel} : ∀ {l : LogL}, lkC k l = some c → (k, c) ∈ l
  | (a, d) :: r, h => by
    simp only [lkC] at h
    split at h
    · rename_i e; subst e; cases h; exact List.mem_cons_self ..
    · exact List.mem_cons_of_mem _ (lkC_mem h)
theorem lkC_of {k : Int × Int} {c : Cel} : ∀ {l : LogL}, (keysC l).Nodup → (k, c) ∈ l → lkC k l = some c
  | (a, d) :: r, hn, h => by
    simp only [keysC, List.map_cons, List.nodup_cons] at hn
    simp only [lkC]
    rcases List.mem_cons.1 h with e | h
    · cases e; simp
    · rw [if_neg]
      · exact lkC_of hn.2 h
      · rintro rfl; exact hn.1 (List.mem_map.2 ⟨_, h, rfl⟩)
theorem look_cv (k : Int × Int) (l : LogL) (hn : (keysC l).Nodup) : look k (cv l) = (lkC k l).map Cel.v := by
  cases h : look k (cv l) with
  | none =>
    rw [look_none, keys_cv] at h
    rw [lkC_none.2 h]; rfl
  | some v =>
    have h1 := look_some h
    obtain ⟨p, hp, e⟩ := List.mem_map.1 h1
    simp only [Prod.mk.injEq] at e
    rw [lkC_of (c := p.2) hn (by rw [← e.1]; exact hp), ← e.2]; rfl
theorem keysC_up (k : Int × Int) (c : Cel) (l : LogL) : keysC (upC k c l) = if k ∈ keysC l then keysC l else keysC l ++ [k] := by
  have := keys_upd (k := k) (v := c.v) (l := cv l)
  rw [upd_cv, keys_cv, keys_cv] at this
  by_cases hk : k ∈ keysC l <;> simp_all
theorem lkC_up (k x : Int × Int) (c : Cel) (l : LogL) : lkC x (upC k c l) = if x = k then some c else lkC x l := by
  unfold upC
  split
  · rename_i h
    induction l with
    | nil => simp [keysC] at h
    | cons p r ih =>
      obtain ⟨a, d⟩ := p
      by_cases e : a = k
      · subst e
        simp only [List.map_cons, if_true, lkC]
        by_cases hx : a = x
        · subst hx; simp
        · rw [if_neg hx, if_neg (fun e => hx e.symm), if_neg hx]
          by_cases hr : a ∈ keysC r
          · rw [ih hr, if_neg (fun e => hx e.symm)]
          · congr 1
            refine (List.map_congr_left fun p hp => ?_).trans (List.map_id _)
            rw [if_neg]; rfl
            rintro rfl; exact hr (List.mem_map.2 ⟨p, hp, rfl⟩)
      · simp only [keysC, List.map_cons, List.mem_cons] at h
        have hr : k ∈ keysC r := h.resolve_left (fun e' => e e'.symm)
        simp only [List.map_cons, if_neg e, lkC]
        by_cases hx : a = x
        · subst hx; simp [e]
        · rw [if_neg hx, if_neg hx, ih hr]
  · rename_i h
    induction l with
    | nil => simp [lkC, eq_comm]
    | cons p r ih =>
      obtain ⟨a, d⟩ := p
      simp only [keysC, List.map_cons, List.mem_cons, not_or] at h
      simp only [List.cons_append, lkC]
      by_cases hx : a = x
      · subst hx; simp [Ne.symm h.1]
      · rw [if_neg hx, if_neg hx, ih h.2]

/-- a log: its struct at lb, its map at r -/
structure LogIs (m : Mem) (lb r : Nat) (cut : Dp) (l : LogL) : Prop where
  box : m lb = some (.cells (Value.map (some r) :: dv cut).toArray T_log_Log (0, 0))
  map : MapIs pv m r (cv l)
theorem LogIs.nd {m : Mem} {lb r : Nat} {cut : Dp} {l : LogL} (h : LogIs m lb r cut l) : (keysC l).Nodup := by
  have := h.map.nd; rwa [keys_cv] at this
theorem LogIs.frame {m m' : Mem} {lb r : Nat} {cut : Dp} {l : LogL} {S : List Nat} (h : LogIs m lb r cut l) (f : Fr m m' S) (h1 : lb ∉ S) (h2 : r ∉ S) : LogIs m' lb r cut l := ⟨f.get h.box h1, h.map.frame f h2⟩
theorem LogIs.frame0 {m m' : Mem} {lb r : Nat} {cut : Dp} {l : LogL} (h : LogIs m lb r cut l) (f : Fr m m' []) : LogIs m' lb r cut l := h.frame f (by simp) (by simp)
theorem LogIs.ne {m : Mem} {lb r : Nat} {cut : Dp} {l : LogL} (h : LogIs m lb r cut l) : lb ≠ r := by
  obtain ⟨es, c, hm, _⟩ := h.map
  rintro rfl
  rw [h.box] at hm; cases hm
abbrev lp (lb : Nat) : Value := .pointer (some ⟨lb, 0, none⟩)
theorem rd_lkpC {m : Mem} {r : Nat} {l : LogL} (h : MapIs pv m r (cv l)) (k : Int × Int) :
    rd (.lkp true [.i .i64, .i .i64] Cel.zero.v true) [.map (some r), pv k] m = some (.tuple #[((lkC k l).getD Cel.zero).v, .bool (lkC k l).isSome]) := by
  rw [rd_lkp pv_enc h k]
  have hn : (keysC l).Nodup := by have := h.nd; rwa [keys_cv] at this
  rw [look_cv k l hn]
  cases lkC k l <;> rfl

theorem log_Cell_s {m : Mem} {lb r : Nat} {cut : Dp} {l : LogL} (h : LogIs m lb r cut l) (k : Int × Int) :
    MC Try.prog n_log_Log_Cell [lp lb, pv k] m fun v m' => v = .tuple #[((lkC k l).getD Cel.zero).v, .bool (lkC k l).isSome] ∧ Fr m m' [] := by
  refine log_Log_Cell_go (by simp [Try.f33]) ?_
  have H := Hp.refl m []
  simp (disch := omega) only [go_sem, undef]
  repeat' (first
    | (refine new_H H fun _ _ _ _ H => ?_; simp (disch := omega) only [go_sem, undef, H.hs, *, H.fr.get0 h.box, rd_lkpC (h.map.frame H.fr (by simp)) k])
    | (refine gQ_split (fun hq => ?_) (fun hq => ?_) <;> (try simp only [Bool.not_true, Bool.not_false] at hq) <;> simp (disch := omega) only [go_sem, undef, H.hs, *, H.fr.get0 h.box, rd_lkpC (h.map.frame H.fr (by simp)) k])
    | (refine condB_split (fun hq => ?_) (fun hq => ?_) <;> simp (disch := omega) only [go_sem, undef, H.hs, *, H.fr.get0 h.box, rd_lkpC (h.map.frame H.fr (by simp)) k])
    | (refine wr0 H fun _ _ H => ?_; simp (disch := omega) only [go_sem, undef, H.hs, *, H.fr.get0 h.box, rd_lkpC (h.map.frame H.fr (by simp)) k])
    | (refine wr1 H fun _ _ H => ?_; simp (disch := omega) only [go_sem, undef, H.hs, *, H.fr.get0 h.box, rd_lkpC (h.map.frame H.fr (by simp)) k])
    | (refine wr2 H fun _ _ H => ?_; simp (disch := omega) only [go_sem, undef, H.hs, *, H.fr.get0 h.box, rd_lkpC (h.map.frame H.fr (by simp)) k])
    | (refine wr3 H fun _ _ H => ?_; simp (disch := omega) only [go_sem, undef, H.hs, *, H.fr.get0 h.box, rd_lkpC (h.map.frame H.fr (by simp)) k])
    | (refine stw0 H rfl rfl fun _ _ H => ?_; simp (disch := omega) only [go_sem, undef, H.hs, *, H.fr.get0 h.box, rd_lkpC (h.map.frame H.fr (by simp)) k])
    | (refine stw1 H rfl rfl fun _ _ H => ?_; simp (disch := omega) only [go_sem, undef, H.hs, *, H.fr.get0 h.box, rd_lkpC (h.map.frame H.fr (by simp)) k]))
  all_goals exact ⟨by cases hl : lkC k l <;> simp_all, H.fr⟩
theorem log_Gone_s {m : Mem} {lb r : Nat} {cut : Dp} {l : LogL} (h : LogIs m lb r cut l) (k : Int × Int) :
    MC Try.prog n_log_Log_Gone [lp lb, pv k] m fun v m' => v = .bool (decide (rightI k ∧ k.2 ≤ cut.g k.1.toNat)) ∧ Fr m m' [] := by
  refine log_Log_Gone_go (by simp [Try.f33]) ?_
  have H := Hp.refl m []
  simp (disch := omega) only [go_sem, undef]
  refine new_H H fun b M hb f H => ?_
  simp (disch := omega) only [go_sem, undef, H.hs]
  refine call_H H (inst_Right_s k M) fun M f H => ?_
  by_cases hr : rightI k
  · obtain ⟨h1, h2, h3, h4⟩ := hr
    simp (disch := omega) only [go_sem, undef, H.hs, H.fr.get0 h.box, dec_t (show rightI k from ⟨h1, h2, h3, h4⟩)]
    exact ⟨by simp [h1, h2, h3, h4, rightI], H.fr⟩
  · simp (disch := omega) only [go_sem, undef, H.hs, H.fr.get0 h.box, dec_f hr]
    exact ⟨by simp [hr], H.fr⟩
theorem log_Cut_s {m : Mem} {lb r : Nat} {cut : Dp} {l : LogL} (h : LogIs m lb r cut l) :
    MC Try.prog n_log_Log_Cut [lp lb] m fun v m' => v = cut.v ∧ Fr m m' [] := by
  refine log_Log_Cut_go (by simp [Try.f33]) ?_
  have H := Hp.refl m []
  simp (disch := omega) only [go_sem, undef]
  repeat' (first
    | (refine new_H H fun _ _ _ _ H => ?_; simp (disch := omega) only [go_sem, undef, H.hs, *, H.fr.get0 h.box])
    | (refine gQ_split (fun hq => ?_) (fun hq => ?_) <;> (try simp only [Bool.not_true, Bool.not_false] at hq) <;> simp (disch := omega) only [go_sem, undef, H.hs, *, H.fr.get0 h.box])
    | (refine condB_split (fun hq => ?_) (fun hq => ?_) <;> simp (disch := omega) only [go_sem, undef, H.hs, *, H.fr.get0 h.box])
    | (refine wr0 H fun _ _ H => ?_; simp (disch := omega) only [go_sem, undef, H.hs, *, H.fr.get0 h.box])
    | (refine wr1 H fun _ _ H => ?_; simp (disch := omega) only [go_sem, undef, H.hs, *, H.fr.get0 h.box])
    | (refine wr2 H fun _ _ H => ?_; simp (disch := omega) only [go_sem, undef, H.hs, *, H.fr.get0 h.box])
    | (refine wr3 H fun _ _ H => ?_; simp (disch := omega) only [go_sem, undef, H.hs, *, H.fr.get0 h.box])
    | (refine stw0 H rfl rfl fun _ _ H => ?_; simp (disch := omega) only [go_sem, undef, H.hs, *, H.fr.get0 h.box])
    | (refine stw1 H rfl rfl fun _ _ H => ?_; simp (disch := omega) only [go_sem, undef, H.hs, *, H.fr.get0 h.box]))
  all_goals exact ⟨rfl, H.fr⟩
def mayC (was c : Cel) : Prop := ¬ (was.st = 3 ∧ (c.st ≠ 3 ∨ c.cmd ≠ was.cmd ∨ c.att ≠ was.att)) ∧ ¬ lt2 c.pr was.pr ∧ ¬ lt2 c.vo was.vo ∧ (was.st ≤ c.st ∨ c.vo ≠ was.vo)
instance (w c : Cel) : Decidable (mayC w c) := by unfold mayC; exact inferInstance
def oldOk (c : Cel) : Option Cel → Prop
  | none => True
  | some w => mayC w c
instance (c : Cel) (o : Option Cel) : Decidable (oldOk c o) := by cases o <;> unfold oldOk <;> exact inferInstance
theorem log_may_s (w c : Cel) (m : Mem) : MC Try.prog n_log_may [w.v, c.v] m fun v m' => v = .bool (decide (mayC w c)) ∧ Fr m m' [] := by
  refine log_may_go (by simp [Try.f33]) ?_
  have H := Hp.refl m []
  simp (disch := omega) only [go_sem, undef]
  repeat' (first
    | (refine new_H H fun _ _ _ _ H => ?_; simp (disch := omega) only [go_sem, undef, H.hs, *])
    | (refine call_H H (inst_Below_s _ _ _) fun _ _ H => ?_; simp (disch := omega) only [go_sem, undef, H.hs, *])
    | (refine gQ_split (fun hq => ?_) (fun hq => ?_) <;> (try simp only [Bool.not_true, Bool.not_false] at hq) <;> simp (disch := omega) only [go_sem, undef, H.hs, *])
    | (refine condB_split (fun hq => ?_) (fun hq => ?_) <;> simp (disch := omega) only [go_sem, undef, H.hs, *])
    | (refine wr0 H fun _ _ H => ?_; simp (disch := omega) only [go_sem, undef, H.hs, *])
    | (refine wr1 H fun _ _ H => ?_; simp (disch := omega) only [go_sem, undef, H.hs, *])
    | (refine wr2 H fun _ _ H => ?_; simp (disch := omega) only [go_sem, undef, H.hs, *])
    | (refine wr3 H fun _ _ H => ?_; simp (disch := omega) only [go_sem, undef, H.hs, *])
    | (refine stw0 H rfl rfl fun _ _ H => ?_; simp (disch := omega) only [go_sem, undef, H.hs, *])
    | (refine stw1 H rfl rfl fun _ _ H => ?_; simp (disch := omega) only [go_sem, undef, H.hs, *]))
  all_goals (try simp only [decide_eq_true_eq, decide_eq_false_iff_not] at *)
  all_goals exact ⟨by first | rfl | (simp only [Value.bool.injEq, decide_eq_true_eq, eq_comm (a := true), eq_comm (a := false), decide_eq_false_iff_not, decide_eq_decide]; grind [mayC]), H.fr⟩
def mayS (cut : Dp) (l : LogL) (k : Int × Int) (c : Cel) : Prop := rightI k ∧ ¬ k.2 ≤ cut.g k.1.toNat ∧ c.right ∧ oldOk c (lkC k l)
instance (cut : Dp) (l : LogL) (k : Int × Int) (c : Cel) : Decidable (mayS cut l k c) := by unfold mayS; exact inferInstance
theorem log_Set_s {m : Mem} {lb r : Nat} {cut : Dp} {l : LogL} (h : LogIs m lb r cut l) (k : Int × Int) (c : Cel) :
    MC Try.prog n_log_Log_Set [lp lb, pv k, c.v] m fun v m' => (v = .bool (decide (mayS cut l k c)) ∧ LogIs m' lb r cut (if mayS cut l k c then upC k c l else l)) ∧ Fr m m' [r] := by
  have hne := h.ne
  have hx : ∀ s ∈ [r], m s ≠ none := fun s hs => by simp at hs; subst hs; exact h.map.there
  refine log_Log_Set_go (by simp [Try.f33]) ?_
  have H := Hp.refl m []
  simp (disch := omega) only [go_sem, undef]
  repeat' (first
    | (refine new_H H fun _ _ _ _ H => ?_; simp (disch := omega) only [go_sem, undef, H.hs, *, H.fr.get0 h.box, rd_lkpC (h.map.frame H.fr (by simp)) k])
    | (refine call_H H (inst_Right_s _ _) fun _ _ H => ?_; simp (disch := omega) only [go_sem, undef, H.hs, *, H.fr.get0 h.box, rd_lkpC (h.map.frame H.fr (by simp)) k])
    | (refine call_H H (log_Gone_s (h.frame0 H.fr) _) fun _ _ H => ?_; simp (disch := omega) only [go_sem, undef, H.hs, *, H.fr.get0 h.box, rd_lkpC (h.map.frame H.fr (by simp)) k])
    | (refine call_H H (letter_RightCell_s _ _) fun _ _ H => ?_; simp (disch := omega) only [go_sem, undef, H.hs, *, H.fr.get0 h.box, rd_lkpC (h.map.frame H.fr (by simp)) k])
    | (refine call_H H (log_may_s _ _ _) fun _ _ H => ?_; simp (disch := omega) only [go_sem, undef, H.hs, *, H.fr.get0 h.box, rd_lkpC (h.map.frame H.fr (by simp)) k])
    | (refine gQ_split (fun hq => ?_) (fun hq => ?_) <;> (try simp only [Bool.not_true, Bool.not_false] at hq) <;> simp (disch := omega) only [go_sem, undef, H.hs, *, H.fr.get0 h.box, rd_lkpC (h.map.frame H.fr (by simp)) k])
    | (refine condB_split (fun hq => ?_) (fun hq => ?_) <;> simp (disch := omega) only [go_sem, undef, H.hs, *, H.fr.get0 h.box, rd_lkpC (h.map.frame H.fr (by simp)) k])
    | (refine wr0 H fun _ _ H => ?_; simp (disch := omega) only [go_sem, undef, H.hs, *, H.fr.get0 h.box, rd_lkpC (h.map.frame H.fr (by simp)) k])
    | (refine wr1 H fun _ _ H => ?_; simp (disch := omega) only [go_sem, undef, H.hs, *, H.fr.get0 h.box, rd_lkpC (h.map.frame H.fr (by simp)) k])
    | (refine wr2 H fun _ _ H => ?_; simp (disch := omega) only [go_sem, undef, H.hs, *, H.fr.get0 h.box, rd_lkpC (h.map.frame H.fr (by simp)) k])
    | (refine wr3 H fun _ _ H => ?_; simp (disch := omega) only [go_sem, undef, H.hs, *, H.fr.get0 h.box, rd_lkpC (h.map.frame H.fr (by simp)) k])
    | (refine stw0 H rfl rfl fun _ _ H => ?_; simp (disch := omega) only [go_sem, undef, H.hs, *, H.fr.get0 h.box, rd_lkpC (h.map.frame H.fr (by simp)) k])
    | (refine stw1 H rfl rfl fun _ _ H => ?_; simp (disch := omega) only [go_sem, undef, H.hs, *, H.fr.get0 h.box, rd_lkpC (h.map.frame H.fr (by simp)) k]))
  all_goals (try simp only [decide_eq_true_eq, decide_eq_false_iff_not] at *)
  all_goals first
    | (have hm : mayS cut l k c := by
         clear H
         cases hl : lkC k l <;> grind [mayS, oldOk]
       refine mup_own (k := k) pv_enc (h.map.frame H.fr (by simp)) fun N hN f _ => ?_
       simp (disch := omega) only [go_sem]
       rw [upd_cv] at hN
       refine ⟨⟨by rw [decide_eq_true hm], ?_⟩, (H.fr.sub (by simp)).transS f⟩
       rw [if_pos hm]
       exact ⟨f.get (H.fr.get0 h.box) (by simpa using hne), hN⟩)
    | (have hm : ¬ mayS cut l k c := by
         clear H
         cases hl : lkC k l <;> grind [mayS, oldOk]
       refine ⟨⟨by rw [decide_eq_false hm], ?_⟩, H.fr.sub (by simp)⟩
       rw [if_neg hm]
       exact h.frame0 H.fr)
end Go.Fw
