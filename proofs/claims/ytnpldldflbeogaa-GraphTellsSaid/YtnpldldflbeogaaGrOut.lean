import Derived.Test.YtnpldldflbeogaaGrTarjan
/-! The parts of a graph in their order, as plain lists. -/
namespace Go.Fw
section
variable {n : Nat} {E : Nat → List Int}

def Free (n : Nat) (E : Nat → List Int) (D : Nat → Prop) (i : Nat) : Prop := i < n ∧ ¬ D i ∧ ∀ j, j < n → Rch n E i j → Rch n E j i ∨ D j
inductive Out (n : Nat) (E : Nat → List Int) : (Nat → Prop) → List (List Nat) → Prop
  | nil {D : Nat → Prop} : (∀ i, ¬ Free n E D i) → Out n E D []
  | cons {D : Nat → Prop} {i : Nat} {f : Nat → Bool} {r : List (List Nat)} : Free n E D i → (∀ k, k < i → ¬ Free n E D k) → (∀ j, j < n → (f j = true ↔ Scc n E i j)) →
      Out n E (fun x => D x ∨ (x < n ∧ Scc n E i x)) r → Out n E D ((List.range n).filter f :: r)

theorem Out.det {D : Nat → Prop} {a b : List (List Nat)} (ha : Out n E D a) : Out n E D b → a = b := by
  induction ha generalizing b with
  | nil h =>
    intro hb
    cases hb with
    | nil => rfl
    | cons h1 => exact absurd h1 (h _)
  | @cons D i f r h1 h2 h3 h4 ih =>
    intro hb
    cases hb with
    | nil h => exact absurd h1 (h _)
    | @cons _ i' f' r' g1 g2 g3 g4 =>
      have hi : i = i' := by
        rcases Nat.lt_trichotomy i i' with h | h | h
        · exact absurd h1 (g2 i h)
        · exact h
        · exact absurd g1 (h2 i' h)
      subst hi
      have : (List.range n).filter f = (List.range n).filter f' := by
        apply List.filter_congr
        intro x hx
        have hx : x < n := by simpa using hx
        have := (h3 x hx).trans (g3 x hx).symm
        cases hf : f x <;> cases hf' : f' x <;> simp_all
      rw [this, ih g4]

/-- numbers of parts -/
structure PT (n : Nat) (E : Nat → List Int) (part : Nat → Nat) (N : Nat) : Prop where
  lt : ∀ v, v < n → part v < N
  scc : ∀ u v, u < n → v < n → (part u = part v ↔ Scc n E u v)
  sur : ∀ p, p < N → ∃ v, v < n ∧ part v = p
  up : ∀ u v, Adj n E u v → part v ≤ part u
  small : N ≤ n

def nodesOf (n : Nat) (part : Nat → Nat) (p : Nat) : List Nat := (List.range n).filter fun v => part v == p
theorem mem_nodesOf {part : Nat → Nat} {p v : Nat} : v ∈ nodesOf n part p ↔ v < n ∧ part v = p := by simp [nodesOf]
theorem nodesOf_ne {part : Nat → Nat} {N : Nat} (h : PT n E part N) {p : Nat} (hp : p < N) : nodesOf n part p ≠ [] := by
  obtain ⟨v, hv, e⟩ := h.sur p hp
  intro h'
  have : v ∈ nodesOf n part p := mem_nodesOf.2 ⟨hv, e⟩
  rw [h'] at this; cases this
def hd (n : Nat) (part : Nat → Nat) (p : Nat) : Nat := (nodesOf n part p).headD 0
theorem hd_mem {part : Nat → Nat} {N : Nat} (h : PT n E part N) {p : Nat} (hp : p < N) : hd n part p ∈ nodesOf n part p := by
  have := nodesOf_ne h hp
  unfold hd
  cases hl : nodesOf n part p with
  | nil => exact absurd hl this
  | cons x r => simp
theorem hd_le {part : Nat → Nat} {p v : Nat} (hv : v ∈ nodesOf n part p) : hd n part p ≤ v := by
  have hs : (nodesOf n part p).Pairwise (· < ·) := List.Pairwise.filter _ List.pairwise_lt_range
  unfold hd
  cases hl : nodesOf n part p with
  | nil => rw [hl] at hv; cases hv
  | cons x r =>
    rw [hl] at hv hs
    rcases List.mem_cons.1 hv with h | h
    · simp [h]
    · have := (List.pairwise_cons.1 hs).1 v h
      simp; omega

/-- the edges of a node that lead to another part: from which to which -/
def cross (n : Nat) (part : Nat → Nat) (v : Nat) (l : List Int) : List (Nat × Nat) :=
  l.filterMap fun (to : Int) => if 0 ≤ to ∧ to < (n : Int) ∧ part to.toNat ≠ part v then some (part v, part to.toNat) else none
def crossAll (n : Nat) (E : Nat → List Int) (part : Nat → Nat) (k : Nat) : List (Nat × Nat) := (List.range k).flatMap fun u => cross n part u (E u)
def leftOf (C : List (Nat × Nat)) (D : List Nat) (p : Nat) : Nat := (C.filter fun c => c.1 == p && !(D.contains c.2)).length
def backOf (C : List (Nat × Nat)) (q : Nat) : List Nat := (C.filter fun c => c.2 == q).map (·.1)

theorem mem_crossAll {part : Nat → Nat} {c : Nat × Nat} : c ∈ crossAll n E part n ↔ ∃ u v, Adj n E u v ∧ part v ≠ part u ∧ c = (part u, part v) := by
  simp only [crossAll, List.mem_flatMap, List.mem_range, cross, List.mem_filterMap]
  constructor
  · rintro ⟨u, hu, to, hto, h⟩
    split at h
    · rename_i h1
      refine ⟨u, to.toNat, ⟨hu, by omega, ?_⟩, h1.2.2, (Option.some.inj h).symm⟩
      rw [Int.toNat_of_nonneg h1.1]; exact hto
    · cases h
  · rintro ⟨u, v, ⟨hu, hv, hm⟩, hne, rfl⟩
    refine ⟨u, hu, (v : Int), hm, ?_⟩
    rw [if_pos ⟨by omega, by omega, by simpa using hne⟩]
    simp

def Cand (C : List (Nat × Nat)) (D : List Nat) (p : Nat) : Prop := p ∉ D ∧ leftOf C D p = 0
theorem leftOf_zero {C : List (Nat × Nat)} {D : List Nat} {p : Nat} : leftOf C D p = 0 ↔ ∀ c ∈ C, c.1 = p → c.2 ∈ D := by
  unfold leftOf
  rw [List.length_eq_zero_iff, List.filter_eq_nil_iff]
  constructor
  · intro h c hc e
    have := h c hc
    simp only [e, beq_self_eq_true, Bool.true_and, Bool.not_eq_true', List.contains_eq_mem, Bool.not_eq_false', decide_eq_false_iff_not, decide_eq_true_eq] at this
    simpa using this
  · intro h c hc
    simp only [Bool.and_eq_true, beq_iff_eq, Bool.not_eq_true', List.contains_eq_mem, decide_eq_false_iff_not, not_and]
    intro e; simpa using h c hc e

/-- what has been told is closed -/
def DClo (n : Nat) (E : Nat → List Int) (part : Nat → Nat) (D : List Nat) : Prop := ∀ u v, Adj n E u v → part u ∈ D → part v ∈ D

/-- one more may be told, while one is left -/
theorem cand_there {part : Nat → Nat} {N : Nat} (h : PT n E part N) {D : List Nat} (hD : ∃ p, p < N ∧ p ∉ D) : ∃ p, p < N ∧ Cand (crossAll n E part n) D p := by
  have : ∀ k p, p ≤ k → p < N → p ∉ D → ∃ p, p < N ∧ Cand (crossAll n E part n) D p := by
    intro k
    induction k with
    | zero =>
      intro p hp hN hd
      refine ⟨p, hN, hd, leftOf_zero.2 ?_⟩
      rintro c hc rfl
      obtain ⟨u, v, ha, hne, rfl⟩ := mem_crossAll.1 hc
      have := h.up u v ha
      simp only at hp hne; omega
    | succ k ih =>
      intro p hp hN hd
      by_cases hc : ∃ q, q ≤ k ∧ q < N ∧ q ∉ D
      · obtain ⟨q, h1, h2, h3⟩ := hc; exact ih q h1 h2 h3
      · refine ⟨p, hN, hd, leftOf_zero.2 ?_⟩
        rintro c hcm rfl
        obtain ⟨u, v, ha, hne, rfl⟩ := mem_crossAll.1 hcm
        have := h.up u v ha
        simp only at hp hne ⊢
        refine Classical.byContradiction fun hq => hc ⟨part v, by omega, h.lt v ha.2.1, hq⟩
  obtain ⟨p, h1, h2⟩ := hD
  exact this p p (Nat.le_refl _) h1 h2

/-- the part with the least node of those that may come is the next of the answer -/
theorem out_step {part : Nat → Nat} {N : Nat} (h : PT n E part N) {D : List Nat} (hclo : DClo n E part D) {b : Nat} (hb : b < N) (hc : Cand (crossAll n E part n) D b)
    (hmin : ∀ p, p < N → Cand (crossAll n E part n) D p → hd n part b ≤ hd n part p) {r : List (List Nat)} (hr : Out n E (fun x => x < n ∧ part x ∈ D ++ [b]) r) :
    Out n E (fun x => x < n ∧ part x ∈ D) (nodesOf n part b :: r) := by
  have hm := mem_nodesOf.1 (hd_mem h hb)
  have hclo' : DClo n E part (D ++ [b]) := by
    intro u v ha hu
    simp only [List.mem_append, List.mem_singleton] at hu ⊢
    rcases hu with hu | hu
    · exact .inl (hclo u v ha hu)
    · by_cases e : part v = part u
      · right; omega
      · exact .inl (leftOf_zero.1 hc.2 (part u, part v) (mem_crossAll.2 ⟨u, v, ha, e, rfl⟩) hu)
  refine Out.cons (i := hd n part b) (f := fun v => part v == b) ⟨hm.1, ?_, ?_⟩ ?_ ?_ ?_
  · rintro ⟨_, h'⟩; rw [hm.2] at h'; exact hc.1 h'
  · intro j hj hr'
    have hT := closed_rch (T := fun x => part x ∈ D ++ [b]) (fun u v hu ha => hclo' u v ha hu) hr' (by simp [hm.2])
    simp only [List.mem_append, List.mem_singleton] at hT
    rcases hT with hT | hT
    · exact .inr ⟨hj, hT⟩
    · exact .inl ((h.scc j _ hj hm.1).1 (by rw [hT, hm.2])).1
  · rintro k hk ⟨hkn, hkD, hkf⟩
    have hq : Cand (crossAll n E part n) D (part k) := by
      refine ⟨fun h' => hkD ⟨hkn, h'⟩, leftOf_zero.2 ?_⟩
      rintro c hcm e
      obtain ⟨u, v, ha, hne, rfl⟩ := mem_crossAll.1 hcm
      simp only at e ⊢
      have hku := (h.scc k u hkn ha.1).1 e.symm
      have hkv : Rch n E k v := hku.1.trans (.one ha)
      rcases hkf v ha.2.1 hkv with h' | h'
      · exact absurd ((h.scc k v hkn ha.2.1).2 ⟨hkv, h'⟩) (by omega)
      · exact h'.2
    have h1 := hmin (part k) (h.lt k hkn) hq
    have h2 := hd_le (n := n) (part := part) (p := part k) (v := k) (mem_nodesOf.2 ⟨hkn, rfl⟩)
    omega
  · intro j hj
    simp only [beq_iff_eq]
    rw [← h.scc _ _ hm.1 hj, hm.2]
    exact ⟨fun e => e.symm, fun e => e.symm⟩
  · have : (fun x => (x < n ∧ part x ∈ D) ∨ (x < n ∧ Scc n E (hd n part b) x)) = fun x => x < n ∧ part x ∈ D ++ [b] := by
      funext x
      apply propext
      simp only [List.mem_append, List.mem_singleton]
      constructor
      · rintro (⟨h1, h2⟩ | ⟨h1, h2⟩)
        · exact ⟨h1, .inl h2⟩
        · refine ⟨h1, .inr ?_⟩
          rw [← (h.scc _ _ hm.1 h1).2 h2, hm.2]
      · rintro ⟨h1, h2 | h2⟩
        · exact .inl ⟨h1, h2⟩
        · exact .inr ⟨h1, (h.scc _ _ hm.1 h1).1 (by rw [hm.2, h2])⟩
    rw [this]; exact hr
theorem clo_step {part : Nat → Nat} {D : List Nat} (hclo : DClo n E part D) {b : Nat} (hc : Cand (crossAll n E part n) D b) : DClo n E part (D ++ [b]) := by
  intro u v ha hu
  simp only [List.mem_append, List.mem_singleton] at hu ⊢
  rcases hu with hu | hu
  · exact .inl (hclo u v ha hu)
  · by_cases e : part v = part u
    · right; omega
    · exact .inl (leftOf_zero.1 hc.2 (part u, part v) (mem_crossAll.2 ⟨u, v, ha, e, rfl⟩) hu)
theorem out_end {part : Nat → Nat} {N : Nat} (h : PT n E part N) {D : List Nat} (hD : ∀ p, p < N → p ∈ D) : Out n E (fun x => x < n ∧ part x ∈ D) [] :=
  .nil fun i ⟨hi, hn, _⟩ => hn ⟨hi, hD _ (h.lt i hi)⟩

/-! steps of the counts -/
theorem leftOf_add (C : List (Nat × Nat)) (a b : Nat) : leftOf (C ++ [(a, b)]) [] = Up (leftOf C []) a (leftOf C [] a + 1) := by
  funext p
  by_cases e : p = a
  · subst e; rw [Up_self]; simp [leftOf]
  · rw [Up_ne _ e]
    have : (a == p) = false := by simpa using fun h => e h.symm
    simp [leftOf, this]
theorem backOf_add (C : List (Nat × Nat)) (a b : Nat) : backOf (C ++ [(a, b)]) = Up (backOf C) b (backOf C b ++ [a]) := by
  funext p
  by_cases e : p = b
  · subst e; rw [Up_self]; simp [backOf]
  · rw [Up_ne _ e]
    have : (b == p) = false := by simpa using fun h => e h.symm
    simp [backOf, this]
theorem leftOf_told (C : List (Nat × Nat)) (D : List Nat) (b : Nat) (hb : b ∉ D) (p : Nat) : leftOf C D p = leftOf C (D ++ [b]) p + ((backOf C b).filter (· == p)).length := by
  induction C with
  | nil => rfl
  | cons c C ih =>
    obtain ⟨x, y⟩ := c
    simp only [leftOf, backOf, List.filter_cons, List.contains_eq_mem] at ih ⊢
    by_cases hx : x = p
    · subst hx
      by_cases hy : y = b
      · subst hy
        have : decide (y ∈ D) = false := by simpa using hb
        simp [this] at ih ⊢; omega
      · by_cases hyD : y ∈ D <;> simp [hy, hyD] at ih ⊢ <;> omega
    · have hx' : (x == p) = false := by simpa using hx
      by_cases hy : y = b
      · subst hy; simp [hx'] at ih ⊢; omega
      · simp [hx', hy] at ih ⊢; omega
end
end Go.Fw
