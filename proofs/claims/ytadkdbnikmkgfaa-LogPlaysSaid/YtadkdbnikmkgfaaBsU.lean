import Derived.Test.YtadkdbnikmkgfaaBsT
import Derived.Test.YtadkdbnikmkgfaaSrt
set_option linter.unusedSimpArgs false
set_option linter.unusedVariables false
namespace Go.Fw
open Go.Proofs Go.Shelf Go.Sort
theorem cmp_log_s (x y : Int × Int) (m : Mem) : MC Try.prog n_log_Log_List_c1 [pv x, pv y] m fun v m' => v = .int .i64 (cf2 x y) ∧ Fr m m' [] := by
  refine log_Log_List_c1_go (by simp [Try.f33]) ?_
  have H := Hp.refl m []
  simp (disch := omega) only [go_sem, undef]
  repeat' (first
    | (refine new_H H fun _ _ _ _ H => ?_; simp (disch := omega) only [go_sem, undef, H.hs, *])
    | (refine call_H H (inst_Less_s _ _ _) fun _ _ H => ?_; simp (disch := omega) only [go_sem, undef, H.hs, *])
    | (refine gQ_split (fun hq => ?_) (fun hq => ?_) <;> (try simp only [Bool.not_true, Bool.not_false] at hq) <;> simp (disch := omega) only [go_sem, undef, H.hs, *])
    | (refine condB_split (fun hq => ?_) (fun hq => ?_) <;> simp (disch := omega) only [go_sem, undef, H.hs, *])
    | (refine wr0 H fun _ _ H => ?_; simp (disch := omega) only [go_sem, undef, H.hs, *])
    | (refine wr1 H fun _ _ H => ?_; simp (disch := omega) only [go_sem, undef, H.hs, *])
    | (refine wr2 H fun _ _ H => ?_; simp (disch := omega) only [go_sem, undef, H.hs, *])
    | (refine wr3 H fun _ _ H => ?_; simp (disch := omega) only [go_sem, undef, H.hs, *])
    | (refine stw0 H rfl rfl fun _ _ H => ?_; simp (disch := omega) only [go_sem, undef, H.hs, *])
    | (refine stw1 H rfl rfl fun _ _ H => ?_; simp (disch := omega) only [go_sem, undef, H.hs, *]))
  all_goals (simp only [decide_eq_true_eq, decide_eq_false_iff_not] at *)
  all_goals exact ⟨by simp [cf2, *], H.fr⟩
theorem prs_app (l r : List (Int × Int)) : prs (l ++ r) = prs l ++ prs r := by simp [prs]
theorem log_List_s {m : Mem} {lb r : Nat} {cut : Dp} {l : LogL} (h : LogIs m lb r cut l) (hl : l.length < 1000000000) :
    MC Try.prog n_log_Log_List [lp lb] m fun u m' => (∃ l', l'.Perm (keysC l) ∧ Asc l' ∧ Own m' T_api_Inst 2 u l'.length (prs l') ∧ ∀ b ∈ blkOf u, m b = none) ∧ Fr m m' [] := by
  have hnd := h.nd
  refine log_Log_List_go (by simp [Try.f33]) ?_
  simp (disch := omega) only [go_sem, undef, h.box]
  refine rng_own h.map fun it N hit hI f1 => ?_
  simp (disch := omega) only [go_sem, undef]
  refine loopQ_intro (fun n E m' => ∃ u done, n = l.length - done.length ∧ E = [(3, u), (9, .pointer (some ⟨it, 0, none⟩))] ∧ IterIs pv m' it r (cv l) done ∧ Own m' T_api_Inst 2 u done.length (prs done) ∧
    Fr m m' [] ∧ (∀ b ∈ blkOf u, m b = none ∧ b ≠ it)) l.length rfl ⟨_, [], rfl, rfl, hI, Own.nil _ _ _, f1, fun b hb => by simp [blkOf, Env.get] at hb⟩ ?_
  clear hI f1
  rintro n E m' ⟨u, done, rfl, rfl, hI, ho, f, hfr⟩
  have hdl : done.length ≤ l.length := by
    obtain ⟨es, c, seen, _, hh, _, hd, hsub, _⟩ := hI
    rw [keys_cv] at hsub
    have := hd.length_le_of_subset hsub
    simpa [keysC] using this
  simp (disch := omega) only [go_sem, undef]
  refine nxt_own pv_enc hI (fun hperm => ?_) (fun k w N hkw hk hI2 hent f2 hnone => ?_)
  · rw [keys_cv] at hperm
    simp (disch := omega) only [go_sem, undef]
    have hdn : done.Nodup := hperm.nodup_iff.1 hnd
    refine call_with (sort_Inst_s (enters_of Try.func37 (by kernel_rfl) rfl) cmp_log_s ho hdn (by omega)) ?_
    rintro x m2 ⟨⟨rfl, l', hp, hasc, ho2⟩, f3⟩
    simp (disch := omega) only [go_sem, undef]
    exact ⟨⟨l', hp.trans hperm.symm, hasc, ho2, fun b hb => (hfr b hb).1⟩, f.trans f3 (fun x hx hx0 => absurd (hfr x hx).1 hx0)⟩
  · have hI2l : (done ++ [k]).length ≤ l.length := by
      obtain ⟨es, c, seen, _, hh, _, hd, hsub, _⟩ := hI2
      rw [keys_cv] at hsub
      have := hd.length_le_of_subset hsub
      simpa [keysC] using this
    simp only [List.length_append, List.length_cons, List.length_nil] at hI2l
    have H := Hp.refl N []
    simp (disch := omega) only [go_sem, undef, hent]
    repeat' (first
      | (refine new_H H fun _ _ _ _ H => ?_; simp (disch := omega) only [go_sem, undef, H.hs, *])
      | (refine gQ_split (fun hq => ?_) (fun hq => ?_) <;> (try simp only [Bool.not_true, Bool.not_false] at hq) <;> simp (disch := omega) only [go_sem, undef, H.hs, *])
      | (refine condB_split (fun hq => ?_) (fun hq => ?_) <;> simp (disch := omega) only [go_sem, undef, H.hs, *])
      | (refine wr0 H fun _ _ H => ?_; simp (disch := omega) only [go_sem, undef, H.hs, *])
      | (refine wr1 H fun _ _ H => ?_; simp (disch := omega) only [go_sem, undef, H.hs, *])
      | (refine wr2 H fun _ _ H => ?_; simp (disch := omega) only [go_sem, undef, H.hs, *])
      | (refine wr3 H fun _ _ H => ?_; simp (disch := omega) only [go_sem, undef, H.hs, *])
      | (refine stw0 H rfl rfl fun _ _ H => ?_; simp (disch := omega) only [go_sem, undef, H.hs, *])
      | (refine stw1 H rfl rfl fun _ _ H => ?_; simp (disch := omega) only [go_sem, undef, H.hs, *]))
    have fall : Fr m' _ [it] := f2.trans0 H.fr
    have hitm : it ∉ blkOf u := fun h => (hfr it h).2 rfl
    have ho2 := ho.frame fall (fun b hb h => (hfr b hb).2 (by simpa using h))
    have fm := f.trans fall (fun x hx hx0 => by simp at hx; subst hx; exact absurd hit hx0)
    have hI3 := hI2.frame H.fr (by simp) (by simp)
    refine app_own (k := 1) ho2 rfl (news := pc k) ?_ rfl (fun v hv => List.all_eq_true.1 (pc_one k) v hv) rfl (by omega) (by omega) ?_
    · have := H.hs.1
      simp only [ldS]
      rw [ldCells_row (l := pc k) this 2 0 0 (by simp [pc_len])]; rfl
    · intro u2 N3 ho3 f3 hblk
      simp (disch := omega) only [go_sem, undef]
      have hrb : r ∉ blkOf u := fun hr => by
        have := (hfr r hr).1
        exact h.map.there this
      have hblk' : ∀ b ∈ blkOf u2, m b = none ∧ b ≠ it := fun b hb => by
        rcases hblk b hb with h | h
        · exact hfr b h
        · refine ⟨fresh_fr fm h, ?_⟩
          rintro rfl
          exact hI3.there h
      refine handN_intro (l.length - (done.length + 1)) (by omega) ⟨u2, done ++ [k], by simp, rfl, hI3.frame f3 hitm hrb, ?_, fm.trans f3 (fun x hx hx0 => absurd (hfr x hx).1 hx0), hblk'⟩
      rw [List.length_append, prs_app]
      simpa [prs] using ho3
def topD (cut : Dp) (l : List (Int × Int)) : Dp := l.foldl (fun d k => Dp.up d k.1.toNat (max (d.g k.1.toNat) k.2)) cut
theorem log_Top_s {m : Mem} {lb r : Nat} {cut : Dp} {l : LogL} (h : LogIs m lb r cut l) (hr : ∀ k ∈ keysC l, rightI k) :
    MC Try.prog n_log_Log_Top [lp lb] m fun v m' => (∃ l', l'.Perm (keysC l) ∧ v = (topD cut l').v) ∧ Fr m m' [] := by
  have hnd := h.nd
  refine log_Log_Top_go (by simp [Try.f33]) ?_
  have H := Hp.refl m []
  simp (disch := omega) only [go_sem, undef]
  refine new_H H fun b2 M _ _ H => ?_
  simp (disch := omega) only [go_sem, undef, H.hs, H.fr.get0 h.box]
  refine new_H H fun b3 M _ _ H => ?_
  simp (disch := omega) only [go_sem, undef, H.hs]
  refine stw0 H rfl rfl fun M _ H => ?_
  simp (disch := omega) only [go_sem, undef, H.hs, H.fr.get0 h.box]
  refine rng_H H (h.map.frame H.fr (by simp)) fun it N hit hI f1 H hit0 hitS hitr => ?_
  simp (disch := omega) only [go_sem, undef]
  refine loopQ_intro (fun n E m' => ∃ (done : List (Int × Int)), n = l.length - done.length ∧ E = [(2, .pointer (some ⟨b2, 0, none⟩)), (3, .pointer (some ⟨b3, 0, none⟩)), (13, .pointer (some ⟨it, 0, none⟩))] ∧ IterIs pv m' it r (cv l) done ∧
    Hp m m' [it] [(b3, .cells (dv (topD cut done)).toArray T_api_Deps), (b2, .cells (dv Dp.zero).toArray T_api_Deps)]) l.length rfl ⟨[], rfl, rfl, hI, H⟩ ?_
  clear H hI f1 hit
  rintro n E m' ⟨done, rfl, rfl, hI, H⟩
  simp (disch := omega) only [go_sem, undef]
  refine nxt_H pv_enc hI H (by simp) (fun hperm => ?_) (fun k w N hkw hk hle hI2 hent f2 H => ?_)
  · rw [keys_cv] at hperm
    simp (disch := omega) only [go_sem, undef, H.hs]
    refine stw1 H rfl rfl fun M _ H => ?_
    simp (disch := omega) only [go_sem, undef, H.hs]
    exact ⟨⟨done, hperm.symm, rfl⟩, H.fr.less (by simp [hit0])⟩
  · have hkr : rightI k := hr k (by rw [← keys_cv]; exact List.mem_map.2 ⟨_, hkw, rfl⟩)
    simp only [List.length_append, List.length_cons, List.length_nil, cv, List.length_map] at hle
    obtain ⟨hk1, hk2, _, _⟩ := hkr
    simp (disch := omega) only [go_sem, undef, hent]
    refine new_H H fun b4 M4 hb4 f3 H => ?_
    simp (disch := omega) only [go_sem, undef, H.hs]
    refine stw0 H rfl rfl fun M5 f4 H => ?_
    simp (disch := omega) only [go_sem, undef, H.hs]
    refine wr1 H fun M f5 H => ?_
    simp (disch := omega) only [go_sem, undef]
    refine handN_intro (l.length - (done.length + 1)) (by omega) ⟨done ++ [k], by simp, rfl, ?_, ?_⟩
    · have g := ((f3.sub (T := [b4, b3]) (by simp)).trans f4 (by simp)).trans f5 (by simp)
      have h3 := H.nw1
      refine hI2.frame g ?_ ?_
      · simp only [List.mem_cons, List.not_mem_nil, or_false, not_or]
        exact ⟨fun e => hI2.there (e ▸ hb4), fun e => h3.2 (by simp [e])⟩
      · simp only [List.mem_cons, List.not_mem_nil, or_false, not_or]
        exact ⟨fun e => hI2.map.there (e ▸ hb4), fun e => h.map.there (e ▸ h3.1)⟩
    · have e : topD cut (done ++ [k]) = Dp.up (topD cut done) k.1.toNat (max ((topD cut done).g k.1.toNat) k.2) := by simp [topD]
      rw [e]; exact H.drop1
theorem log_New_s (cut : Dp) (m : Mem) :
    MC Try.prog n_log_New [cut.v] m fun v m' => (∃ lb r, v = lp lb ∧ LogIs m' lb r (trimD Dp.zero cut) [] ∧ m lb = none ∧ m r = none) ∧ Fr m m' [] := by
  refine log_New_go (by simp [Try.f33]) ?_
  have H := Hp.refl m []
  simp (disch := omega) only [go_sem, undef]
  refine new_H H fun b1 M _ _ H => ?_
  simp (disch := omega) only [go_sem, undef, H.hs]
  refine new_H H fun r M _ _ H => ?_
  simp (disch := omega) only [go_sem, undef, H.hs]
  refine new_H H fun lb M _ _ H => ?_
  simp (disch := omega) only [go_sem, undef, H.hs]
  have hnd := H.nd
  have hlb := H.nw0.1
  have hr := H.nw1.1
  have hL : LogIs M lb r Dp.zero [] := ⟨H.hs.1, by
    have h2 := H.hs.2.1
    exact ⟨#[], 0, h2, rfl, by simp [keysOf, cv], by simp, by simp⟩⟩
  refine call_with (log_Trim_s hL cut) ?_
  rintro v M2 ⟨⟨rfl, hL2⟩, f2⟩
  simp (disch := omega) only [go_sem, undef]
  refine ⟨⟨lb, r, rfl, by simpa using hL2, hlb, hr⟩, (H.fr.sub (T := [lb, r]) (by simp)).transS f2 |>.less (by simp [hlb, hr])⟩
end Go.Fw
