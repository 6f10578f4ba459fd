import Derived.Test.YtnpldldflbeogaaGrWithin
/-! A graph that a law makes itself. -/
namespace Go.Fw
open Go.Proofs

structure GB (m m' : Mem) (be k : Nat) (f : Nat → Value) (E : Nat → List Int) : Prop where
  hb : m' be = some (.cells (rv k f).toArray 26 (0, 0))
  row : ∀ v, v < k → ∃ a c, f v = .slice a (E v).length c ∧ (E v = [] ∨ ∃ b t fr, a = some ⟨b, 0, none⟩ ∧ b ≠ be ∧ m' b = some (.cells (ints (E v)).toArray t fr))
  fr : Fr m m' []
  fresh : m be = none
theorem GB.new {m m1 : Mem} {be k : Nat} (hbe : m1 be = none) (hf : Fr m m1 []) : GB m (m1.set be (.cells (rv k fun _ => .slice none 0 0).toArray 26)) be k (fun _ => .slice none 0 0) (fun _ => []) := by
  refine ⟨set_self _ _, fun v _ => ⟨none, 0, rfl, .inl rfl⟩, hf.trans0 (Fr.new _ hbe), ?_⟩
  cases h' : m be with
  | none => rfl
  | some o => rw [hf.get0 h'] at hbe; cases hbe
theorem GB.frame {m m1 m2 : Mem} {be k : Nat} {f : Nat → Value} {E : Nat → List Int} (h : GB m m1 be k f E) (g : Fr m1 m2 []) : GB m m2 be k f E :=
  ⟨g.get0 h.hb, fun v hv => let ⟨a, c, e, hr⟩ := h.row v hv; ⟨a, c, e, hr.imp (fun h => h) fun ⟨b, t, fr, h1, h2, h3⟩ => ⟨b, t, fr, h1, h2, g.get0 h3⟩⟩, h.fr.trans0 g, h.fresh⟩
theorem GB.put {m m1 : Mem} {be k : Nat} {f : Nat → Value} {E : Nat → List Int} (h : GB m m1 be k f E) {i bn : Nat} {x : Int} (hi : i < k) (hbn : m1 bn = none) :
    GB m ((m1.set bn (.cells [Value.int .i64 x].toArray 3)).set be (.cells (rv k (Up f i (.slice (some ⟨bn, 0, none⟩) 1 1))).toArray 26)) be k (Up f i (.slice (some ⟨bn, 0, none⟩) 1 1)) (fun v => if v = i then [x] else E v) := by
  have hne : bn ≠ be := fun e => by have := h.hb; rw [← e, hbn] at this; cases this
  refine ⟨set_self _ _, fun v hv => ?_, ?_, h.fresh⟩
  · by_cases e : v = i
    · subst e
      rw [Up_self]
      refine ⟨_, _, by rw [if_pos rfl]; rfl, .inr ⟨bn, 3, (0, 0), rfl, hne, ?_⟩⟩
      rw [set_ne _ _ _ hne, set_self, if_pos rfl]; rfl
    · rw [Up_ne _ e]
      obtain ⟨a, c, e1, hr⟩ := h.row v hv
      refine ⟨a, c, by rw [if_neg e]; exact e1, ?_⟩
      rcases hr with hr | ⟨b, t, fr, h1, h2, h3⟩
      · exact .inl (by rw [if_neg e]; exact hr)
      · refine .inr ⟨b, t, fr, h1, h2, ?_⟩
        rw [if_neg e, set_ne _ _ _ h2, set_ne _ _ _ (fun e => by rw [e, hbn] at h3; cases h3)]; exact h3
  · exact (h.fr.trans0 (Fr.new _ hbn)).trans (T := [be]) (Fr.set (by simp)) (fun y hy hne' => by simp only [List.mem_singleton] at hy; subst hy; exact (hne' h.fresh).elim)
theorem GB.nil {m m1 : Mem} {be k : Nat} {f : Nat → Value} {E : Nat → List Int} (h : GB m m1 be k f E) {i : Nat} (hi : i < k) :
    GB m (m1.set be (.cells (rv k (Up f i (.slice none 0 0))).toArray 26)) be k (Up f i (.slice none 0 0)) (fun v => if v = i then [] else E v) := by
  refine ⟨set_self _ _, fun v hv => ?_, ?_, h.fresh⟩
  · by_cases e : v = i
    · subst e
      rw [Up_self]
      exact ⟨none, 0, by rw [if_pos rfl]; rfl, .inl (if_pos rfl)⟩
    · rw [Up_ne _ e]
      obtain ⟨a, c, e1, hr⟩ := h.row v hv
      refine ⟨a, c, by rw [if_neg e]; exact e1, ?_⟩
      rcases hr with hr | ⟨b, t, fr, h1, h2, h3⟩
      · exact .inl (by rw [if_neg e]; exact hr)
      · exact .inr ⟨b, t, fr, h1, h2, by rw [if_neg e, set_ne _ _ _ h2]; exact h3⟩
  · exact h.fr.trans (T := [be]) (Fr.set (by simp)) (fun y hy hne' => by simp only [List.mem_singleton] at hy; subst hy; exact (hne' h.fresh).elim)
theorem GB.grd {m m1 : Mem} {be k : Nat} {f : Nat → Value} {E : Nat → List Int} (h : GB m m1 be k f E) (hl : ∀ v, v < k → (E v).length ≤ 1048576) : GRd m1 k (.slice (some ⟨be, 0, none⟩) k k) E := by
  refine ⟨_, _, rv k f, rfl, rv_len _ _, Rd1.lit h.hb, fun v hv => ⟨hl v hv, ?_⟩⟩
  obtain ⟨a, c, e, hr⟩ := h.row v hv
  refine ⟨a, c, by rw [rv_get _ _ _ hv, e], ?_⟩
  rcases hr with hr | ⟨b, t, fr, rfl, _, h3⟩
  · exact .inl (by rw [hr]; rfl)
  · exact Rd1.lit h3
end Go.Fw
