import Derived.Test.YtnpldldflbeogaaGrOut
/-! Chains and rings: their answers. -/
namespace Go.Fw
section
variable {n : Nat} {E : Nat → List Int}

theorem filter_lt (t : Nat) : ∀ k, (List.range k).filter (fun j => decide (j < t)) = List.range (min k t)
  | 0 => by simp
  | k + 1 => by
    rw [List.range_succ, List.filter_append, filter_lt t k]
    by_cases h : k < t
    · simp only [List.filter_cons, List.filter_nil, h, decide_true, if_true]
      rw [show min k t = k from by omega, show min (k + 1) t = k + 1 from by omega, List.range_succ]
    · simp only [List.filter_cons, List.filter_nil, h, decide_false, Bool.false_eq_true, if_false, List.append_nil]
      rw [show min k t = t from by omega, show min (k + 1) t = t from by omega]
theorem filter_eq (t : Nat) : ∀ k, (List.range k).filter (fun j => j == t) = if t < k then [t] else []
  | 0 => by simp
  | k + 1 => by
    rw [List.range_succ, List.filter_append, filter_eq t k]
    by_cases h : k = t
    · subst h; simp
    · have h2 : (k == t) = false := by simpa using h
      simp only [List.filter_cons, List.filter_nil, h2, Bool.false_eq_true, if_false, List.append_nil]
      by_cases h3 : t < k
      · rw [if_pos h3, if_pos (by omega)]
      · rw [if_neg h3, if_neg (by omega)]

/-- up to c one part, then each alone -/
theorem out_tail {c : Nat} (h : ∀ u v, u < n → v < n → (Rch n E u v ↔ v ≤ max u c)) : ∀ (m t : Nat), c < t → t + m = n → Out n E (fun x => x < t) ((List.range' t m).map fun i => [i])
  | 0, t, hc, ht => .nil fun i ⟨hi, hn, _⟩ => hn (by omega)
  | m + 1, t, hc, ht => by
    have e : (List.range' t (m + 1)).map (fun i => [i]) = (List.range n).filter (fun j => j == t) :: (List.range' (t + 1) m).map fun i => [i] := by
      rw [filter_eq, if_pos (by omega), List.range'_succ]; rfl
    rw [e]
    refine .cons (i := t) ⟨by omega, by omega, fun j hj hr => ?_⟩ (fun k hk hf => hf.2.1 hk) (fun j hj => ?_) ?_
    · have := (h t j (by omega) hj).1 hr
      by_cases e : j = t
      · subst e; exact .inl (.refl _)
      · exact .inr (by omega)
    · simp only [beq_iff_eq, Scc]
      rw [h t j (by omega) hj, h j t hj (by omega)]
      constructor
      · rintro rfl; omega
      · rintro ⟨h1, h2⟩; omega
    · have hd : (fun x => x < t ∨ (x < n ∧ Scc n E t x)) = fun x => x < t + 1 := by
        funext x
        apply propext
        constructor
        · rintro (hx | ⟨hx, h1, h2⟩)
          · omega
          · have h1 := (h t x (by omega) hx).1 h1
            omega
        · intro hx
          by_cases e : x = t
          · subst e; exact .inr ⟨by omega, .refl _, .refl _⟩
          · exact .inl (by omega)
      rw [hd]
      exact out_tail h m (t + 1) (by omega) (by omega)

theorem out_line {c : Nat} (hc : c < n) (h : ∀ u v, u < n → v < n → (Rch n E u v ↔ v ≤ max u c)) : Out n E (fun _ => False) (List.range (c + 1) :: (List.range' (c + 1) (n - (c + 1))).map fun i => [i]) := by
  have e : List.range (c + 1) = (List.range n).filter (fun j => decide (j < c + 1)) := by
    rw [filter_lt, show min n (c + 1) = c + 1 from by omega]
  rw [e]
  refine .cons (i := 0) ⟨by omega, fun h => h, fun j hj hr => .inl ?_⟩ (fun k hk => by omega) (fun j hj => ?_) ?_
  · exact (h j 0 hj (by omega)).2 (by omega)
  · simp only [decide_eq_true_eq, Scc]
    rw [h 0 j (by omega) hj, h j 0 hj (by omega)]
    omega
  · have hd : (fun x => False ∨ (x < n ∧ Scc n E 0 x)) = fun x => x < c + 1 := by
      funext x
      apply propext
      constructor
      · rintro (hx | ⟨hx, h1, h2⟩)
        · exact hx.elim
        · have h1 := (h 0 x (by omega) hx).1 h1
          omega
      · intro hx
        exact .inr ⟨by omega, (h 0 x (by omega) (by omega)).2 (by omega), (h x 0 (by omega) (by omega)).2 (by omega)⟩
    rw [hd]
    exact out_tail h (n - (c + 1)) (c + 1) (by omega) (by omega)

/-- each leads to the one before -/
def EChain (l : List Int) (v : Nat) : List Int := if v = 0 then l else [(v : Int) - 1]
theorem chain_down (l : List Int) : ∀ (u v : Nat), u < n → v ≤ u → Rch n (EChain l) u v
  | 0, v, hu, hv => by obtain rfl : v = 0 := by omega
                       exact .refl _
  | u + 1, v, hu, hv => by
    by_cases e : v = u + 1
    · subst e; exact .refl _
    · refine .step (v := u) ⟨hu, by omega, ?_⟩ (chain_down l u v (by omega) (by omega))
      simp [EChain]
theorem chain_rch {c : Nat} {l : List Int} (hc : c < n) (hl : ∀ x ∈ l, x ≤ c) (hup : c = 0 ∨ (c : Int) ∈ l) (u v : Nat) (hu : u < n) (hv : v < n) : Rch n (EChain l) u v ↔ v ≤ max u c := by
  constructor
  · intro h
    refine closed_rch (T := fun y => y ≤ max u c) (fun a b ha hb => ?_) h (by omega)
    obtain ⟨h1, h2, h3⟩ := hb
    unfold EChain at h3
    split at h3
    · have := hl _ h3; omega
    · simp only [List.mem_singleton] at h3; omega
  · intro h
    by_cases e : v ≤ u
    · exact chain_down l u v hu e
    · refine (chain_down l u 0 hu (by omega)).trans ?_
      rcases hup with rfl | hm
      · omega
      · refine .step (v := c) ⟨by omega, hc, ?_⟩ (chain_down l c v hc (by omega))
        simpa [EChain] using hm
end
end Go.Fw
