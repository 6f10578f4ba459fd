import Derived.Test.YtadkdbnikmkgfaaBsP
set_option linter.unusedVariables false
namespace Go.Fw
open Go.Proofs
/-! sets that were taken, taken again -/
theorem mayC_refl (c : Cel) : mayC c c := by
  unfold mayC lt2
  refine ⟨fun ⟨h, h1⟩ => ?_, by omega, by omega, .inl (Int.le_refl _)⟩
  rcases h1 with h1 | h1 | h1
  · exact h1 h
  · exact h1 rfl
  · exact h1 rfl
theorem mayC_trans {a b c : Cel} (h1 : mayC a b) (h2 : mayC b c) : mayC a c := by
  obtain ⟨a1, a2, a3, a4⟩ := h1
  obtain ⟨b1, b2, b3, b4⟩ := h2
  have key : ¬ (c.vo ≠ a.vo) → b.vo = a.vo := fun h => by
    have : c.vo = a.vo := Classical.byContradiction h
    rw [this] at b3
    unfold lt2 at *
    exact Prod.ext (by omega) (by omega)
  refine ⟨?_, by unfold lt2 at *; omega, by unfold lt2 at *; omega, ?_⟩
  · rintro ⟨h, h1⟩
    have e1 : b.st = 3 := Classical.byContradiction fun e => a1 ⟨h, .inl e⟩
    have e2 : b.cmd = a.cmd := Classical.byContradiction fun e => a1 ⟨h, .inr (.inl e)⟩
    have e3 : b.att = a.att := Classical.byContradiction fun e => a1 ⟨h, .inr (.inr e)⟩
    exact b1 ⟨e1, by rw [e2, e3]; exact h1⟩
  · by_cases h : c.vo ≠ a.vo
    · exact .inr h
    · have e := key h
      have e2 : c.vo = a.vo := Classical.byContradiction h
      rcases a4 with a4 | a4
      · rcases b4 with b4 | b4
        · exact .inl (by omega)
        · exact absurd (e2.trans e.symm) b4
      · exact absurd e a4
inductive Accd : LogL → LogL → Prop
  | nil : Accd [] []
  | snoc {A l : LogL} {k : Int × Int} {c : Cel} : Accd A l → mayS Dp.zero l k c → Accd (A ++ [(k, c)]) (upC k c l)
theorem Accd.right {A X : LogL} (h : Accd A X) : ∀ p ∈ A, rightI p.1 ∧ p.2.right := by
  induction h with
  | nil => simp
  | snoc _ hm ih =>
    intro p hp
    rcases List.mem_append.1 hp with hp | hp
    · exact ih p hp
    · simp only [List.mem_singleton] at hp; subst hp; exact ⟨hm.1, hm.2.2.1⟩
theorem Accd.above {A X : LogL} (h : Accd A X) : ∀ p ∈ A, ∃ c, lkC p.1 X = some c ∧ mayC p.2 c := by
  induction h with
  | nil => simp
  | @snoc A l k c h hm ih =>
    intro p hp
    rcases List.mem_append.1 hp with hp | hp
    · obtain ⟨d, h1, h2⟩ := ih p hp
      by_cases e : p.1 = k
      · refine ⟨c, by rw [lkC_up, if_pos e], ?_⟩
        have h3 := hm.2.2.2
        rw [← e, h1] at h3
        exact mayC_trans h2 h3
      · exact ⟨d, by rw [lkC_up, if_neg e]; exact h1, h2⟩
    · simp only [List.mem_singleton] at hp; subst hp
      exact ⟨c, by rw [lkC_up, if_pos rfl], mayC_refl c⟩
theorem Accd.last {A X : LogL} (h : Accd A X) : ∀ j k c, A[j]? = some (k, c) → k ∉ keysC (A.drop (j + 1)) → lkC k X = some c := by
  induction h with
  | nil => simp
  | @snoc A l k0 c0 h hm ih =>
    intro j k c hj hk
    have hlt := (List.getElem?_eq_some_iff.1 hj).1
    simp only [List.length_append, List.length_cons, List.length_nil] at hlt
    by_cases e : j < A.length
    · rw [List.getElem?_append_left e] at hj
      rw [List.drop_append_of_le_length (by omega)] at hk
      simp only [keysC, List.map_append, List.mem_append, not_or, List.map_cons, List.map_nil, List.mem_singleton] at hk
      rw [lkC_up, if_neg hk.2]
      exact ih j k c hj hk.1
    · have : j = A.length := by omega
      subst this
      rw [List.getElem?_append_right (Nat.le_refl _)] at hj
      simp at hj
      obtain ⟨rfl, rfl⟩ := hj
      rw [lkC_up, if_pos rfl]
theorem Accd.keys {A X : LogL} (h : Accd A X) : ∀ p ∈ A, p.1 ∈ keysC X := fun p hp => by
  obtain ⟨c, h1, _⟩ := h.above p hp
  exact Classical.byContradiction fun hn => by rw [lkC_none.2 hn] at h1; cases h1
abbrev stepC (l : LogL) (p : (Int × Int) × Cel) : LogL := if mayS Dp.zero l p.1 p.2 then upC p.1 p.2 l else l
/-- the second round, so far -/
structure Again (A X : LogL) (j : Nat) (y : LogL) : Prop where
  keys : keysC y = keysC X
  same : ∀ k c, lkC k X = some c → ∃ d, lkC k y = some d ∧ mayC c d ∧ mayC d c ∧ (k ∉ keysC (A.drop j) → d = c)
theorem Again.start {A X : LogL} : Again A X 0 X := ⟨rfl, fun k c h => ⟨c, h, mayC_refl c, mayC_refl c, fun _ => rfl⟩⟩
theorem Again.next {A X y : LogL} {j : Nat} (h : Accd A X) (I : Again A X j y) {p : (Int × Int) × Cel} (hp : A[j]? = some p) : Again A X (j + 1) (stepC y p) := by
  obtain ⟨k0, c0⟩ := p
  have hmem := List.mem_of_getElem? hp
  obtain ⟨hr, hc⟩ := h.right _ hmem
  have hdrop : A.drop j = (k0, c0) :: A.drop (j + 1) := by
    obtain ⟨h1, h2⟩ := List.getElem?_eq_some_iff.1 hp
    rw [List.drop_eq_getElem_cons h1, h2]
  obtain ⟨cX, hX, hle⟩ := h.above _ hmem
  simp only at hr hc hX hle
  obtain ⟨d, hd, h1, h2, h3⟩ := I.same k0 cX hX
  have hk0 : k0 ∈ keysC y := by rw [I.keys]; exact h.keys _ hmem
  have hmay : mayS Dp.zero y k0 c0 ↔ mayC d c0 := by
    unfold mayS
    rw [hd]
    have : Dp.zero.g k0.1.toNat = 0 := by unfold Dp.g; split <;> rfl
    rw [this]
    exact ⟨fun h => h.2.2.2, fun h => ⟨hr, by have := hr.2.2.1; omega, hc, h⟩⟩
  have hkeys : keysC (stepC y (k0, c0)) = keysC X := by
    unfold stepC; split
    · simp only; rw [keysC_up, if_pos hk0]; exact I.keys
    · exact I.keys
  refine ⟨hkeys, fun k c hkc => ?_⟩
  by_cases e : k = k0
  · subst e
    obtain rfl : cX = c := by rw [hX] at hkc; exact Option.some.inj hkc
    by_cases hm : mayC d c0
    · refine ⟨c0, ?_, mayC_trans h1 hm, hle, fun hn => ?_⟩
      · unfold stepC; simp only; rw [if_pos (hmay.2 hm), lkC_up, if_pos rfl]
      · have := h.last j k c0 hp hn
        rw [hX] at this; exact (Option.some.inj this).symm
    · refine ⟨d, ?_, h1, h2, fun hn => ?_⟩
      · unfold stepC; simp only; rw [if_neg (fun h => hm (hmay.1 h))]; exact hd
      · have := h.last j k c0 hp hn
        rw [hX] at this
        obtain rfl := Option.some.inj this
        exact absurd h2 hm
  · obtain ⟨d2, g1, g2, g3, g4⟩ := I.same k c hkc
    refine ⟨d2, ?_, g2, g3, fun hn => g4 ?_⟩
    · unfold stepC; split
      · simp only; rw [lkC_up, if_neg e]; exact g1
      · exact g1
    · rw [hdrop]
      simp only [keysC, List.map_cons, List.mem_cons, not_or] at hn ⊢
      exact ⟨e, hn⟩
theorem Again.done {A X y : LogL} (I : Again A X A.length y) : keysC y = keysC X ∧ ∀ k, k ∈ keysC X → lkC k y = lkC k X := by
  refine ⟨I.keys, fun k hk => ?_⟩
  cases h : lkC k X with
  | none => exact absurd hk (lkC_none.1 h)
  | some c =>
    obtain ⟨d, h1, _, _, h4⟩ := I.same k c h
    rw [h1, h4 (by rw [List.drop_length]; simp [keysC])]
theorem Accd.take {A X : LogL} (h : Accd A X) : ∀ j, j ≤ A.length → ∃ l, Accd (A.take j) l := by
  induction h with
  | nil => intro j hj; simp at hj; subst hj; exact ⟨[], .nil⟩
  | @snoc A l k c h hm ih =>
    intro j hj
    simp only [List.length_append, List.length_cons, List.length_nil] at hj
    by_cases e : j ≤ A.length
    · rw [List.take_append_of_le_length e]; exact ih j e
    · rw [List.take_of_length_le (by simp; omega)]; exact ⟨_, .snoc h hm⟩
theorem Accd.uniq {A X Y : LogL} (h : Accd A X) (g : Accd A Y) : X = Y := by
  induction h generalizing Y with
  | nil =>
    generalize hB : ([] : LogL) = B at g
    cases g with
    | nil => rfl
    | snoc _ _ => simp at hB
  | @snoc A l k c h hm ih =>
    generalize hB : A ++ [(k, c)] = B at g
    cases g with
    | nil => simp at hB
    | @snoc A2 l2 k2 c2 g hm2 =>
      have := List.append_inj' hB rfl
      obtain ⟨rfl, h2⟩ := this
      simp at h2
      obtain ⟨rfl, rfl⟩ := h2
      rw [ih g]
/-- the j-th of those that were taken is taken, where the ones before it were -/
theorem Accd.at {A X : LogL} (h : Accd A X) {j : Nat} {p : (Int × Int) × Cel} (hp : A[j]? = some p) {l : LogL} (hl : Accd (A.take j) l) : mayS Dp.zero l p.1 p.2 ∧ Accd (A.take (j + 1)) (upC p.1 p.2 l) := by
  have hlt := (List.getElem?_eq_some_iff.1 hp).1
  obtain ⟨l2, h2⟩ := h.take (j + 1) (by omega)
  have e : A.take (j + 1) = A.take j ++ [p] := by rw [List.take_add_one, hp]; rfl
  rw [e] at h2 ⊢
  generalize hB : A.take j ++ [p] = B at h2
  cases h2 with
  | nil => simp at hB
  | @snoc A3 l3 k3 c3 g hm =>
    obtain ⟨e1, e2⟩ := List.append_inj' hB rfl
    simp at e2
    subst e2
    subst e1
    obtain rfl := hl.uniq g
    rw [hB]
    exact ⟨hm, .snoc g hm⟩
end Go.Fw
