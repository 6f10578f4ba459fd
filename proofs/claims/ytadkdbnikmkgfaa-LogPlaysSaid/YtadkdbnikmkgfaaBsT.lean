import Derived.Test.YtadkdbnikmkgfaaBsL
set_option linter.unusedSimpArgs false
set_option linter.unusedVariables false
namespace Go.Fw
open Go.Proofs
def trimD (cut upto : Dp) : Dp := fun i => max (cut i) (min (max (upto i) 0) 1073741824)
abbrev goneD (cut : Dp) (k : Int × Int) : Prop := rightI k ∧ k.2 ≤ cut.g k.1.toNat
theorem trimD_g (cut upto : Dp) (k : Nat) (h : k < 7) : (trimD cut upto).g k = max (cut.g k) (min (max (upto.g k) 0) 1073741824) := by simp [Dp.g, h, trimD]
theorem log_Trim_s {m : Mem} {lb r : Nat} {cut : Dp} {l : LogL} (h : LogIs m lb r cut l) (upto : Dp) :
    MC Try.prog n_log_Log_Trim [lp lb, upto.v] m fun v m' => (v = .tuple #[] ∧ LogIs m' lb r (trimD cut upto) (l.filter fun p => ¬ goneD (trimD cut upto) p.1)) ∧ Fr m m' [lb, r] := by
  have hne := h.ne
  have hx : ∀ s ∈ [lb, r], m s ≠ none := fun s hs => by
    simp at hs; rcases hs with rfl | rfl
    · rw [h.box]; exact Option.some_ne_none _
    · exact h.map.there
  refine log_Log_Trim_go (by simp [Try.f33]) ?_
  have H := Hp.refl m [lb, r] hx
  simp (disch := omega) only [go_sem, undef]
  refine new_H H fun b M hb f H => ?_
  have hL := h.frame0 f
  simp (disch := omega) only [go_sem, undef, H.hs]
  refine loopQ_intro (fun n E m' => ∃ (k : Nat) (c : Dp), k ≤ 7 ∧ n = 7 - k ∧ E = [(0, lp lb), (7, upto.v), (8, .int .i64 k)] ∧ (∀ j, j < k → c.g j = (trimD cut upto).g j) ∧ (∀ j, k ≤ j → c.g j = cut.g j) ∧ LogIs m' lb r c l ∧ Fr m m' [lb, r]) 7 rfl ⟨0, cut, by omega, rfl, rfl, by simp, by simp, hL, H.fr⟩ ?_
  clear H hL f hb
  rintro n E m' ⟨k, c, hk, rfl, rfl, h1, h2, hL, f⟩
  simp (disch := omega) only [go_sem, undef]
  refine condB_dec (fun h => ?_) (fun h => ?_)
  · have hk7 : k < 7 := by omega
    have H := Hp.refl m' [lb] (by simp [hL.box])
    simp (disch := omega) only [go_sem, undef, hL.box]
    refine wrS H (by simp) fun M hM f' H => ?_
    simp (disch := omega) only [go_sem, undef]
    refine handN_intro (7 - (k + 1)) (by omega) ⟨k + 1, _, by omega, rfl, rfl, fun j hj => ?_, fun j hj => ?_, ⟨hM, hL.map.frame f' (by simpa using hne.symm)⟩, f.trans f' (by simp)⟩
    · rw [Dp.up_g]
      by_cases e : j = k
      · subst e; simp [hk7, trimD_g, h2 j (Nat.le_refl _)]
      · rw [if_neg (fun h => e h.1)]; exact h1 j (by omega)
    · rw [Dp.up_g, if_neg (by omega)]; exact h2 j (by omega)
  · have hc : c = trimD cut upto := Dp.ext_g fun j hj => h1 j (by omega)
    subst hc
    clear h1 h2
    simp (disch := omega) only [go_sem, undef, hL.box]
    refine rng_own hL.map fun it N hit hI f1 => ?_
    have hbox := f1.get0 hL.box
    have f2 := f.trans0 f1
    have hitm : m it = none := by
      cases hm : m it with
      | none => rfl
      | some o => exact absurd hit (f.some (by rw [hm]; exact Option.some_ne_none _) (by
          intro hs; simp at hs
          rcases hs with rfl | rfl
          · rw [hL.box] at hit; cases hit
          · exact hL.map.there hit))
    have hitl : it ≠ lb := by rintro rfl; rw [hL.box] at hit; cases hit
    have hitr : it ≠ r := by rintro rfl; exact hL.map.there hit
    clear f f1 hL hit
    simp (disch := omega) only [go_sem, undef]
    generalize hcut : trimD cut upto = ct at *
    refine loopQ_intro (fun n E m' => ∃ (l' : LogL) (done D : List (Int × Int)), n = l'.length - done.length ∧ E = [(0, lp lb), (32, .pointer (some ⟨it, 0, none⟩))] ∧ IterIs pv m' it r (cv l') done ∧ m' lb = some (.cells (Value.map (some r) :: dv ct).toArray T_log_Log (0, 0)) ∧
      l' = l.filter (fun p => p.1 ∉ D) ∧ (∀ x ∈ D, goneD ct x) ∧ (∀ x ∈ done, ¬ goneD ct x) ∧ Fr m m' [lb, r]) l.length rfl ⟨l, [], [], by simp, rfl, hI, hbox, (List.filter_eq_self.2 (by simp)).symm, by simp, by simp, f2⟩ ?_
    clear hI hbox f2
    rintro n E m' ⟨l', done, D, rfl, rfl, hI, hbox, hl', hD, hdone, f⟩
    have hle : done.length ≤ l'.length := by
      obtain ⟨es, c, seen, _, hh, _, hd, hsub, _⟩ := hI
      rw [keys_cv] at hsub
      have := hd.length_le_of_subset hsub
      simpa [keysC] using this
    simp (disch := omega) only [go_sem, undef]
    refine nxt_own pv_enc hI (fun hperm => ?_) (fun k w N hkw hk hI2 hent f1 hnone => ?_)
    · simp (disch := omega) only [go_sem, undef]
      refine ⟨⟨rfl, hbox, ?_⟩, f⟩
      rw [keys_cv] at hperm
      have : l.filter (fun p => ¬ goneD ct p.1) = l' := by
        rw [hl']
        refine List.filter_congr fun p hp => ?_
        by_cases hx : p.1 ∈ D
        · rw [decide_eq_false (fun hn => hn (hD _ hx)), decide_eq_false (fun hn => hn hx)]
        · have hin : p.1 ∈ keysC l' := by rw [hl']; exact List.mem_map.2 ⟨p, List.mem_filter.2 ⟨hp, by simpa using hx⟩, rfl⟩
          have := hdone _ (hperm.mem_iff.1 hin)
          rw [decide_eq_true this, decide_eq_true hx]
      rw [this]
      exact hI.map
    · have hI2l : (done ++ [k]).length ≤ l'.length := by
        obtain ⟨es, c, seen, _, hh, _, hd, hsub, _⟩ := hI2
        rw [keys_cv] at hsub
        have := hd.length_le_of_subset hsub
        simpa [keysC] using this
      simp only [List.length_append, List.length_cons, List.length_nil] at hI2l
      have hboxN := f1.get hbox (by simpa using hitl.symm)
      have H := Hp.refl N []
      simp (disch := omega) only [go_sem, undef, hent]
      refine new_H H fun b M hb f2 H => ?_
      simp (disch := omega) only [go_sem, undef, H.hs]
      refine stw0 H rfl rfl fun M f3 H => ?_
      simp (disch := omega) only [go_sem, undef, H.hs]
      have hI3 := hI2.frame H.fr (by simp) (by simp)
      refine call_H H (log_Gone_s ⟨H.fr.get0 hboxN, hI3.map⟩ k) fun M f4 H => ?_
      have hI4 := hI2.frame H.fr (by simp) (by simp)
      have fall := f1.trans0 H.fr
      by_cases hg : goneD ct k
      · simp (disch := omega) only [go_sem, undef, H.hs, dec_t hg, H.fr.get0 hboxN]
        refine dlt_iter (k := k) pv_enc hI4 fun M2 hI5 f5 _ => ?_
        rw [del_cv] at hI5
        have hdn : (done ++ [k]).filter (· ≠ k) = done := by
          rw [List.filter_append]
          simp only [ne_eq, decide_not, List.filter_cons, decide_true, Bool.not_true, Bool.false_eq_true, if_false, List.filter_nil, List.append_nil]
          refine List.filter_eq_self.2 fun x hx => ?_
          simp only [Bool.not_eq_true', decide_eq_false_iff_not]
          rintro rfl; exact hk hx
        rw [hdn] at hI5
        have hlen : (l'.filter fun p => p.1 ≠ k).length < l'.length := by
          obtain ⟨p, hp, e⟩ := List.mem_map.1 hkw
          exact List.length_filter_lt_length_iff_exists.2 ⟨p, hp, by simp only [Prod.mk.injEq] at e; simp [e.1]⟩
        have hle2 : done.length ≤ (l'.filter fun p => p.1 ≠ k).length := by
          obtain ⟨es, c, seen, _, hh, _, hd, hsub, _⟩ := hI5
          rw [keys_cv] at hsub
          have := hd.length_le_of_subset hsub
          simpa [keysC] using this
        simp (disch := omega) only [go_sem, undef]
        refine handN_intro ((l'.filter fun p => p.1 ≠ k).length - done.length) (by omega) ⟨_, done, k :: D, rfl, rfl, hI5, f5.get (H.fr.get0 hboxN) (by simpa using hne), ?_, ?_, hdone, ?_⟩
        · rw [hl', List.filter_filter]
          refine List.filter_congr fun p _ => ?_
          simp
        · intro x hx
          rcases List.mem_cons.1 hx with rfl | hx
          · exact hg
          · exact hD x hx
        · exact (f.trans ((fall.sub (T := [it, r]) (by simp)).trans f5 (by simp)) (fun x hx hx0 => by
            simp at hx; rcases hx with rfl | rfl
            · exact absurd hitm hx0
            · simp))
      · simp (disch := omega) only [go_sem, undef, H.hs, dec_f hg]
        refine handN_intro (l'.length - (done.length + 1)) (by omega) ⟨l', done ++ [k], D, by simp, rfl, hI4, H.fr.get0 hboxN, hl', hD, ?_, ?_⟩
        · intro x hx
          rcases List.mem_append.1 hx with hx | hx
          · exact hdone x hx
          · simp only [List.mem_singleton] at hx; subst hx; exact hg
        · exact f.trans fall (fun x hx hx0 => by simp at hx; subst hx; exact absurd hitm hx0)
end Go.Fw
