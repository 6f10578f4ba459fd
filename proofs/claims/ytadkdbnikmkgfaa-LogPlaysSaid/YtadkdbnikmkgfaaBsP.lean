import Derived.Test.YtadkdbnikmkgfaaBsX
set_option linter.unusedVariables false
namespace Go.Fw
open Go.Proofs
/-! plain facts of logs -/
theorem topD_le (cut : Dp) (l : List (Int × Int)) (h : ∀ k ∈ l, rightI k) (r : Nat) (hr : r < 7) (x : Int) : (topD cut l).g r ≤ x ↔ cut.g r ≤ x ∧ ∀ k ∈ l, k.1.toNat = r → k.2 ≤ x := by
  unfold topD
  induction l generalizing cut with
  | nil => simp
  | cons k l ih =>
    rw [List.foldl_cons, ih _ (fun k hk => h k (List.mem_cons_of_mem _ hk)), Dp.up_g]
    have hk := h k (List.mem_cons_self ..)
    by_cases e : r = k.1.toNat
    · subst e
      simp only [hr, and_self, if_true, List.mem_cons, forall_eq_or_imp, true_implies]
      constructor
      · rintro ⟨h1, h2⟩; exact ⟨by omega, by omega, h2⟩
      · rintro ⟨h1, h2, h3⟩; exact ⟨by omega, h3⟩
    · rw [if_neg (fun h => e h.1)]
      simp only [List.mem_cons, forall_eq_or_imp]
      constructor
      · rintro ⟨h1, h2⟩; exact ⟨h1, fun h => absurd h.symm e, h2⟩
      · rintro ⟨h1, _, h3⟩; exact ⟨h1, h3⟩
theorem topD_perm {cut : Dp} {l l' : List (Int × Int)} (hp : l'.Perm l) (h : ∀ k ∈ l, rightI k) : topD cut l' = topD cut l := by
  refine Dp.ext_g fun r hr => ?_
  have h' : ∀ k ∈ l', rightI k := fun k hk => h k (hp.mem_iff.1 hk)
  have key : ∀ x, (topD cut l').g r ≤ x ↔ (topD cut l).g r ≤ x := fun x => by
    rw [topD_le _ _ h' r hr, topD_le _ _ h r hr]
    exact and_congr Iff.rfl ⟨fun h k hk => h k (hp.mem_iff.2 hk), fun h k hk => h k (hp.mem_iff.1 hk)⟩
  have h1 := (key _).1 (Int.le_refl _)
  have h2 := (key _).2 (Int.le_refl _)
  omega
abbrev KeysOk (l : LogL) : Prop := ∀ k ∈ keysC l, rightI k
theorem keysOk_up {cut : Dp} {l : LogL} (h : KeysOk l) {k : Int × Int} {c : Cel} : KeysOk (if mayS cut l k c then upC k c l else l) := by
  split
  · rename_i hm
    intro x hx
    rw [keysC_up] at hx
    split at hx
    · exact h x hx
    · rcases List.mem_append.1 hx with hx | hx
      · exact h x hx
      · simp only [List.mem_singleton] at hx; subst hx; exact hm.1
  · exact h
theorem keysC_filter (l : LogL) (p : Int × Int → Bool) : keysC (l.filter fun x => p x.1) = (keysC l).filter p := by
  unfold keysC; rw [List.filter_map]; rfl
abbrev liveC (cut : Dp) (l : LogL) : LogL := l.filter fun p => ¬ goneD cut p.1
theorem mem_live {cut : Dp} {l : LogL} {k : Int × Int} : k ∈ keysC (liveC cut l) ↔ k ∈ keysC l ∧ ¬ goneD cut k := by
  rw [liveC, keysC_filter l (fun k => decide (¬ goneD cut k)), List.mem_filter, decide_eq_true_eq]
theorem keysOk_live {cut : Dp} {l : LogL} (h : KeysOk l) : KeysOk (liveC cut l) := fun k hk => h k (mem_live.1 hk).1
theorem top_live {c0 cut : Dp} {l : LogL} (h : KeysOk l) (hc : ∀ i, i < 7 → c0.g i ≤ cut.g i) (r : Nat) (hr : r < 7) : (topD cut (keysC (liveC cut l))).g r = max ((topD c0 (keysC l)).g r) (cut.g r) := by
  have key : ∀ x, (topD cut (keysC (liveC cut l))).g r ≤ x ↔ max ((topD c0 (keysC l)).g r) (cut.g r) ≤ x := fun x => by
    rw [topD_le _ _ (keysOk_live h) r hr, Int.max_le, topD_le _ _ h r hr]
    constructor
    · rintro ⟨h1, h2⟩
      refine ⟨⟨by have := hc r hr; omega, fun k hk e => ?_⟩, h1⟩
      by_cases hg : goneD cut k
      · have := hg.2; rw [e] at this; omega
      · exact h2 k (mem_live.2 ⟨hk, hg⟩) e
    · rintro ⟨⟨h1, h2⟩, h3⟩
      exact ⟨h3, fun k hk e => h2 k (mem_live.1 hk).1 e⟩
  have h1 := (key _).1 (Int.le_refl _)
  have h2 := (key _).2 (Int.le_refl _)
  omega
theorem asc_eq {l l' : List (Int × Int)} (h : Asc l) (h' : Asc l') (hp : l.Perm l') : l = l' :=
  hp.eq_of_pairwise (fun a b _ _ h1 h2 => by unfold lt2 at h1 h2; omega) h h'
theorem trim_twice (c u : Dp) : trimD (trimD c u) u = trimD c u := by
  funext i; simp only [trimD]; omega
theorem trim_zero {c : Dp} (h : ∀ i, 0 ≤ c i) : trimD c Dp.zero = c := by
  funext i; have := h i; simp only [trimD, Dp.zero]; omega
theorem live_twice (c : Dp) (l : LogL) : liveC c (liveC c l) = liveC c l := by
  unfold liveC; rw [List.filter_filter]; simp
end Go.Fw
