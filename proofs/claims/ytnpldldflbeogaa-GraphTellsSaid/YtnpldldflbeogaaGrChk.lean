import Derived.Test.YtnpldldflbeogaaGrOut
/-! The answer for a graph whose paths are known, reckoned. -/
namespace Go.Fw
section
variable {n : Nat} {E : Nat → List Int}
def freeB (n : Nat) (r : Nat → Nat → Bool) (D : List Nat) (i : Nat) : Bool := decide (i < n) && !(D.contains i) && (List.range n).all fun j => !(r i j) || r j i || D.contains j
def chk (n : Nat) (r : Nat → Nat → Bool) : List Nat → List (List Nat) → Bool
  | D, [] => (List.range n).all fun i => !(freeB n r D i)
  | D, l :: rest => ((List.range n).any fun i => freeB n r D i && ((List.range i).all fun k => !(freeB n r D k)) && (l == (List.range n).filter fun j => r i j && r j i)) && chk n r (D ++ l) rest

theorem free_iff {r : Nat → Nat → Bool} (hr : ∀ u v, u < n → v < n → (Rch n E u v ↔ r u v = true)) (D : List Nat) (i : Nat) : Free n E (· ∈ D) i ↔ freeB n r D i = true := by
  simp only [Free, freeB, Bool.and_eq_true, decide_eq_true_eq, Bool.not_eq_true', List.all_eq_true, List.mem_range, Bool.or_eq_true, List.contains_eq_mem, decide_eq_false_iff_not]
  constructor
  · rintro ⟨h1, h2, h3⟩
    refine ⟨⟨h1, h2⟩, fun j hj => ?_⟩
    by_cases e : r i j = true
    · rcases h3 j hj ((hr i j h1 hj).2 e) with h | h
      · exact .inl (.inr ((hr j i hj h1).1 h))
      · exact .inr h
    · exact .inl (.inl (by simpa using e))
  · rintro ⟨⟨h1, h2⟩, h3⟩
    refine ⟨h1, h2, fun j hj hij => ?_⟩
    rcases h3 j hj with (h | h) | h
    · rw [(hr i j h1 hj).1 hij] at h; cases h
    · exact .inl ((hr j i hj h1).2 h)
    · exact .inr h

theorem chk_out {r : Nat → Nat → Bool} (hr : ∀ u v, u < n → v < n → (Rch n E u v ↔ r u v = true)) : ∀ (l : List (List Nat)) (D : List Nat), chk n r D l = true → Out n E (· ∈ D) l
  | [], D, h => by
    refine .nil fun i hi => ?_
    have h1 := (free_iff hr D i).1 hi
    have := List.all_eq_true.1 h i (by simpa using hi.1)
    rw [h1] at this; cases this
  | l :: rest, D, h => by
    simp only [chk, Bool.and_eq_true, List.any_eq_true, List.mem_range, List.all_eq_true, beq_iff_eq, Bool.not_eq_true'] at h
    obtain ⟨⟨i, hi, ⟨h1, h2⟩, rfl⟩, h3⟩ := h
    refine .cons (i := i) ((free_iff hr D i).2 h1) (fun k hk hf => ?_) (fun j hj => ?_) ?_
    · have := (free_iff hr D k).1 hf
      rw [h2 k hk] at this; cases this
    · simp only [Bool.and_eq_true, Scc]
      rw [hr i j hi hj, hr j i hj hi]
    · have := chk_out hr rest _ h3
      have e : (fun x => x ∈ D ∨ (x < n ∧ Scc n E i x)) = fun x => x ∈ D ++ (List.range n).filter fun j => r i j && r j i := by
        funext x
        apply propext
        simp only [List.mem_append, List.mem_filter, List.mem_range, Bool.and_eq_true, Scc]
        constructor
        · rintro (h | ⟨h, h', h''⟩)
          · exact .inl h
          · exact .inr ⟨h, (hr i x hi h).1 h', (hr x i h hi).1 h''⟩
        · rintro (h | ⟨h, h', h''⟩)
          · exact .inl h
          · exact .inr ⟨h, (hr i x hi h).2 h', (hr x i h hi).2 h''⟩
      rw [e]; exact this

def E1 (v : Nat) : List Int := [[1], [2], [1], [0]].getD v []
def r1 (u v : Nat) : Bool := [[true, true, true, false], [false, true, true, false], [false, true, true, false], [true, true, true, true]].getD u [] |>.getD v false
theorem adj1 {u v : Nat} (h : Adj 4 E1 u v) : (u = 0 ∧ v = 1) ∨ (u = 1 ∧ v = 2) ∨ (u = 2 ∧ v = 1) ∨ (u = 3 ∧ v = 0) := by
  obtain ⟨hu, hv, hm⟩ := h
  rcases (by omega : u = 0 ∨ u = 1 ∨ u = 2 ∨ u = 3) with rfl | rfl | rfl | rfl <;> simp [E1] at hm <;> omega
theorem e1_01 : Adj 4 E1 0 1 := ⟨by decide, by decide, by decide⟩
theorem e1_12 : Adj 4 E1 1 2 := ⟨by decide, by decide, by decide⟩
theorem e1_21 : Adj 4 E1 2 1 := ⟨by decide, by decide, by decide⟩
theorem e1_30 : Adj 4 E1 3 0 := ⟨by decide, by decide, by decide⟩
theorem r1_ok (u v : Nat) (hu : u < 4) (hv : v < 4) : Rch 4 E1 u v ↔ r1 u v = true := by
  constructor
  · intro h
    have key : ∀ u v, Adj 4 E1 u v → ∀ x, x < 4 → r1 x u = true → r1 x v = true := by
      intro u v ha x hx h
      rcases adj1 ha with ⟨rfl, rfl⟩ | ⟨rfl, rfl⟩ | ⟨rfl, rfl⟩ | ⟨rfl, rfl⟩ <;> rcases (by omega : x = 0 ∨ x = 1 ∨ x = 2 ∨ x = 3) with rfl | rfl | rfl | rfl <;> revert h <;> decide
    have := closed_rch (T := fun y => r1 u y = true) (fun a b h ha => key a b ha u hu h) h
    apply this
    rcases (by omega : u = 0 ∨ u = 1 ∨ u = 2 ∨ u = 3) with rfl | rfl | rfl | rfl <;> decide
  · intro h
    have h02 : Rch 4 E1 0 2 := .step e1_01 (.one e1_12)
    rcases (by omega : u = 0 ∨ u = 1 ∨ u = 2 ∨ u = 3) with rfl | rfl | rfl | rfl <;> rcases (by omega : v = 0 ∨ v = 1 ∨ v = 2 ∨ v = 3) with rfl | rfl | rfl | rfl <;>
      first
        | exact .refl _
        | exact .one e1_01
        | exact .one e1_12
        | exact .one e1_21
        | exact .one e1_30
        | exact h02
        | exact .step e1_30 (.one e1_01)
        | exact .step e1_30 h02
        | (exfalso; revert h; decide)
theorem out1 : Out 4 E1 (fun _ => False) [[1, 2], [0], [3]] := by
  have := chk_out r1_ok [[1, 2], [0], [3]] [] (by decide)
  have e : (fun x => x ∈ ([] : List Nat)) = fun _ => False := by funext x; simp
  rw [e] at this; exact this
theorem rch_none (n u v : Nat) : Rch n (fun _ => []) u v ↔ u = v := by
  constructor
  · intro h
    cases h with
    | refl => rfl
    | step ha _ => exact absurd ha.2.2 (by simp)
  · rintro rfl; exact .refl _
theorem out2 : Out 3 (fun _ => []) (fun _ => False) [[0], [1], [2]] := by
  have := chk_out (n := 3) (E := fun _ => []) (r := fun u v => u == v) (fun u v _ _ => by rw [rch_none]; simp) [[0], [1], [2]] [] (by decide)
  have e : (fun x => x ∈ ([] : List Nat)) = fun _ => False := by funext x; simp
  rw [e] at this; exact this
end
end Go.Fw
