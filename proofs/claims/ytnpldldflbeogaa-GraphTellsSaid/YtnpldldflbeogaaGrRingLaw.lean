import Derived.Test.YtnpldldflbeogaaGrTurned
/-! Rings: their answers. -/
namespace Go.Fw
def suc (k v : Nat) : Nat := if v + 1 = k then 0 else v + 1
def ERing (k : Nat) (v : Nat) : List Int := [(suc k v : Nat)]
def ECut (k c : Nat) (v : Nat) : List Int := if v = c then [] else [(suc k v : Nat)]
def dst (k c v : Nat) : Nat := if v ≤ c then c - v else c + k - v
def at_ (k c i : Nat) : Nat := if i ≤ c then c - i else c + k - i
section
variable {k c : Nat}
theorem cut_adj {u v : Nat} : Adj k (ECut k c) u v ↔ u < k ∧ v < k ∧ u ≠ c ∧ v = suc k u := by
  unfold Adj ECut
  by_cases e : u = c
  · rw [if_pos e]; simp [e]
  · rw [if_neg e]
    simp only [List.mem_singleton, Int.natCast_inj]
    exact ⟨fun ⟨h1, h2, h3⟩ => ⟨h1, h2, e, h3⟩, fun ⟨h1, h2, _, h3⟩ => ⟨h1, h2, h3⟩⟩
theorem cut_up (hc : c < k) : ∀ (n u v : Nat), u < k → v < k → dst k c u = dst k c v + n → Rch k (ECut k c) u v
  | 0, u, v, hu, hv, h => by
    have : u = v := by unfold dst at h; split at h <;> split at h <;> omega
    subst this; exact .refl _
  | n + 1, u, v, hu, hv, h => by
    have huc : u ≠ c := fun e => by subst e; unfold dst at h; simp at h
    have hs : suc k u < k ∧ dst k c (suc k u) + 1 = dst k c u := by
      unfold suc
      split
      · rename_i e
        refine ⟨by omega, ?_⟩
        unfold dst
        rw [if_pos (by omega), if_neg (by omega)]; omega
      · refine ⟨by omega, ?_⟩
        unfold dst
        by_cases h2 : u ≤ c
        · rw [if_pos h2, if_pos (by omega)]; omega
        · rw [if_neg h2, if_neg (by omega)]; omega
    exact .step (cut_adj.2 ⟨hu, hs.1, huc, rfl⟩) (cut_up hc n _ v hs.1 hv (by omega))
theorem cut_rch (hc : c < k) (u v : Nat) (hu : u < k) (hv : v < k) : Rch k (ECut k c) u v ↔ dst k c v ≤ dst k c u := by
  constructor
  · intro h
    refine closed_rch (T := fun y => dst k c y ≤ dst k c u) (fun a b ha hb => ?_) h (Nat.le_refl _)
    obtain ⟨h1, h2, h3, h4⟩ := cut_adj.1 hb
    subst h4
    refine Nat.le_trans ?_ ha
    unfold suc dst
    split <;> split <;> split <;> omega
  · intro h
    exact cut_up hc (dst k c u - dst k c v) u v hu hv (by omega)
theorem at_dst {i : Nat} (hc : c < k) (hi : i < k) : at_ k c i < k ∧ ∀ x, x < k → (dst k c x = i ↔ x = at_ k c i) := by
  unfold at_ dst
  refine ⟨by split <;> omega, fun x hx => ?_⟩
  split <;> split <;> omega
theorem cut_tail (hc : c < k) : ∀ (m t : Nat), t + m = k → Out k (ECut k c) (fun x => x < k ∧ dst k c x < t) ((List.range' t m).map fun i => [at_ k c i])
  | 0, t, h => .nil fun i ⟨hi, hn, _⟩ => hn ⟨hi, by unfold dst; split <;> omega⟩
  | m + 1, t, h => by
    obtain ⟨h1, h2⟩ := at_dst (i := t) hc (by omega)
    have hdt : dst k c (at_ k c t) = t := (h2 _ h1).2 rfl
    have e : (List.range' t (m + 1)).map (fun i => [at_ k c i]) = (List.range k).filter (fun j => j == at_ k c t) :: (List.range' (t + 1) m).map fun i => [at_ k c i] := by
      rw [filter_eq, if_pos h1, List.range'_succ]; rfl
    rw [e]
    refine .cons (i := at_ k c t) ⟨h1, fun hd => by have := hd.2; omega, fun j hj hr => ?_⟩ (fun x hx hf => ?_) (fun j hj => ?_) ?_
    · have := (cut_rch hc _ j h1 hj).1 hr
      by_cases e : dst k c j = t
      · exact .inl ((cut_rch hc j _ hj h1).2 (by omega))
      · exact .inr ⟨hj, by omega⟩
    · have hxk : x < k := by omega
      have hge : ¬ dst k c x < t := fun h => hf.2.1 ⟨hxk, h⟩
      have hne : dst k c x ≠ t := fun e => by have := (h2 x hxk).1 e; omega
      rcases hf.2.2 _ h1 ((cut_rch hc x _ hxk h1).2 (by omega)) with h | h
      · have := (cut_rch hc _ x h1 hxk).1 h; omega
      · have := h.2; omega
    · simp only [beq_iff_eq, Scc]
      rw [cut_rch hc _ j h1 hj, cut_rch hc j _ hj h1, ← (h2 j hj)]
      omega
    · have hd : (fun x => (x < k ∧ dst k c x < t) ∨ (x < k ∧ Scc k (ECut k c) (at_ k c t) x)) = fun x => x < k ∧ dst k c x < t + 1 := by
        funext x
        apply propext
        constructor
        · rintro (⟨hx, h⟩ | ⟨hx, h, _⟩)
          · exact ⟨hx, by omega⟩
          · have := (cut_rch hc _ x h1 hx).1 h
            exact ⟨hx, by omega⟩
        · rintro ⟨hx, h⟩
          by_cases e : dst k c x = t
          · exact .inr ⟨hx, (cut_rch hc _ x h1 hx).2 (by omega), (cut_rch hc x _ hx h1).2 (by omega)⟩
          · exact .inl ⟨hx, by omega⟩
      rw [hd]
      exact cut_tail hc m (t + 1) (by omega)
theorem cut_out (hc : c < k) : Out k (ECut k c) (fun _ => False) ((List.range k).map fun i => [at_ k c i]) := by
  have := cut_tail hc k 0 (by omega)
  rw [List.range_eq_range']
  have e : (fun x => x < k ∧ dst k c x < 0) = fun _ => False := by funext x; simp
  rw [e] at this; exact this
theorem ring_rch (u v : Nat) (hu : u < k) (hv : v < k) : Rch k (ERing k) u v := by
  have h0 : dst k v v = 0 := by unfold dst; rw [if_pos (Nat.le_refl _)]; omega
  refine rch_congr (E := ECut k v) (fun a b h => ?_) ((cut_rch hv u v hu hv).2 (by omega))
  obtain ⟨h1, h2, _, h4⟩ := cut_adj.1 h
  exact ⟨h1, h2, by simp [ERing, h4]⟩
theorem ring_out (hk : 0 < k) : Out k (ERing k) (fun _ => False) [List.range k] := by
  have h : Out k (ERing k) (fun _ => False) ((List.range k).filter (fun _ => true) :: []) := by
    refine .cons (i := 0) ⟨hk, fun h => h, fun j hj _ => .inl (ring_rch j 0 hj hk)⟩ (fun x hx => by omega) (fun j hj => ⟨fun _ => ⟨ring_rch 0 j hk hj, ring_rch j 0 hj hk⟩, fun _ => rfl⟩) ?_
    exact .nil fun i ⟨hi, hn, _⟩ => hn (.inr ⟨hi, ring_rch 0 i hk hi, ring_rch i 0 hi hk⟩)
  have e : (List.range k).filter (fun _ => true) = List.range k := List.filter_eq_self.2 (fun _ _ => rfl)
  rwa [e] at h
theorem ring_tmod {i : Nat} (hi : i < k) : ((i : Int) + 1).tmod k = (suc k i : Nat) := by
  unfold suc
  split
  · rename_i e
    have : ((i : Int) + 1) = k := by omega
    rw [this]; simp
  · rw [Int.tmod_eq_of_lt (by omega) (by omega)]; omega
theorem cut_tmod {i : Nat} (hc : c < k) (hi : i < k) : ((c : Int) - i + k).tmod k = (at_ k c i : Nat) := by
  unfold at_
  split
  · have : ((c : Int) - i + k) = ((c - i : Nat) : Int) + k := by omega
    rw [this, Int.tmod_eq_emod_of_nonneg (by omega), Int.add_emod_right, Int.emod_eq_of_lt (by omega) (by omega)]
  · rw [Int.tmod_eq_of_lt (by omega) (by omega)]; omega
end
end Go.Fw
