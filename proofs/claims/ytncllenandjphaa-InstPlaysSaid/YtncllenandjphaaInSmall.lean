import Derived.Test.YtncllenandjphaaInCode
namespace Go.Fw
open Go.Proofs
theorem at_spec (r s : Int) (m : Mem) : MC Try.prog 9 [.int .i64 r, .int .i64 s] m fun v m' => v = .agg #[.int .i64 r, .int .i64 s] ∧ Fr m m' [] := by
  refine MC_start Try.func9 at__ok (by kernel_rfl) (by simp [Try.f9]) ?_
  simp (disch := omega) only [go_sem]
  refine newP_intro fun b hb => ?_
  simp (disch := omega) only [go_sem]
  exact ⟨rfl, Fr.new _ hb⟩
abbrev lt_c (T : Nat) : NC := .seq (.reg (.x 0 (.box T) [(.slot 0)] none []
    (.x 1 (.box T) [(.slot 1)] none []
    (.out [(2, (.res 0)), (3, (.res 1))]))) [0, 1]) (.seq less__r1 .ret)
theorem lt_wp {P : Program} (T : Nat) (a b c d : Int) (m : Mem) : wpN P (lt_c T) (retP [.slot 4] fun v m' => v = .bool (decide (a < c ∨ a = c ∧ b < d)) ∧ Fr m m' [])
    (zipP 0 [.agg #[.int .i64 a, .int .i64 b], .agg #[.int .i64 c, .int .i64 d]]) m := by
  simp (disch := omega) only [go_sem]
  refine newP_intro fun b1 hb1 => ?_
  simp (disch := omega) only [go_sem]
  refine newP_intro fun b2 hb2 => ?_
  have hn := ne_new hb2
  have hf : Fr m ((m.set b1 (Obj.cells #[Value.int IntKind.i64 a, Value.int IntKind.i64 b] T)).set b2 (Obj.cells #[Value.int IntKind.i64 c, Value.int IntKind.i64 d] T)) [] := (Fr.new _ hb1).trans0 (Fr.new _ hb2)
  generalize hM : (m.set b1 (Obj.cells #[Value.int IntKind.i64 a, Value.int IntKind.i64 b] T)).set b2 (Obj.cells #[Value.int IntKind.i64 c, Value.int IntKind.i64 d] T) = M at hf ⊢
  have h1 : M b1 = some (Obj.cells #[Value.int IntKind.i64 a, Value.int IntKind.i64 b] T) := by rw [← hM, set_ne _ _ _ (Ne.symm hn), set_self]
  have h2 : M b2 = some (Obj.cells #[Value.int IntKind.i64 c, Value.int IntKind.i64 d] T) := by rw [← hM, set_self]
  clear hM hb1 hb2
  by_cases h : a < c
  · simp (disch := omega) only [go_sem, h1, h2, dec_t h, undef]
    exact ⟨by simp [h], hf⟩
  · by_cases h' : a = c
    · simp (disch := omega) only [go_sem, h1, h2, dec_f h, dec_t h', Bool.false_eq_true]
      exact ⟨by simp [h'], hf⟩
    · simp (disch := omega) only [go_sem, h1, h2, dec_f h, dec_f h', Bool.false_eq_true, undef]
      exact ⟨by simp [h, h'], hf⟩
theorem less_spec (a b c d : Int) (m : Mem) : MC Try.prog 15 [.agg #[.int .i64 a, .int .i64 b], .agg #[.int .i64 c, .int .i64 d]] m fun v m' => v = .bool (decide (a < c ∨ a = c ∧ b < d)) ∧ Fr m m' [] :=
  MC_start Try.func15 less__ok (by kernel_rfl) (by simp [Try.f15]) (lt_wp 25 a b c d m)
theorem below_spec (a b c d : Int) (m : Mem) : MC Try.prog 16 [.agg #[.int .i64 a, .int .i64 b], .agg #[.int .i64 c, .int .i64 d]] m fun v m' => v = .bool (decide (a < c ∨ a = c ∧ b < d)) ∧ Fr m m' [] :=
  MC_start Try.func16 below__ok (by kernel_rfl) (by simp [Try.f16]) (lt_wp 35 a b c d m)
theorem rless_spec (a b c d : Int) (m : Mem) : MC Try.prog 20 [.agg #[.int .i64 a, .int .i64 b], .agg #[.int .i64 c, .int .i64 d]] m fun v m' => v = .bool (decide (a < c ∨ a = c ∧ b < d)) ∧ Fr m m' [] :=
  MC_start Try.func20 rless__ok (by kernel_rfl) (by simp [Try.f20]) (lt_wp 25 a b c d m)
theorem rbelow_spec (a b c d : Int) (m : Mem) : MC Try.prog 24 [.agg #[.int .i64 a, .int .i64 b], .agg #[.int .i64 c, .int .i64 d]] m fun v m' => v = .bool (decide (a < c ∨ a = c ∧ b < d)) ∧ Fr m m' [] :=
  MC_start Try.func24 rbelow__ok (by kernel_rfl) (by simp [Try.f24]) (lt_wp 35 a b c d m)
theorem next_spec (a b r : Int) (m : Mem) : MC Try.prog 17 [.agg #[.int .i64 a, .int .i64 b], .int .i64 r] m fun v m' => v = .agg #[.int .i64 (IntKind.i64.wrap (a + 1)), .int .i64 r] ∧ Fr m m' [] := by
  refine MC_start Try.func17 next__ok (by kernel_rfl) (by simp [Try.f17]) ?_
  simp (disch := omega) only [go_sem]
  refine newP_intro fun b1 hb1 => ?_
  simp (disch := omega) only [go_sem]
  refine newP_intro fun b2 hb2 => ?_
  have hn := ne_new hb2
  simp (disch := omega) only [go_sem, Ne.symm hn, ne_eq, not_false_eq_true]
  exact ⟨rfl, (Fr.new _ hb1).trans0 (Fr.new _ hb2)⟩
theorem rball_spec (a b : Int) (m : Mem) : MC Try.prog 22 [.agg #[.int .i64 a, .int .i64 b]] m fun v m' => v = .bool (decide (0 ≤ a ∧ a ≤ 1073741824 ∧ 0 ≤ b ∧ b < 7)) ∧ Fr m m' [] := by
  refine MC_start Try.func22 rball__ok (by kernel_rfl) (by simp [Try.f22]) ?_
  simp (disch := omega) only [go_sem]
  refine newP_intro fun b1 hb1 => ?_
  by_cases h1 : 0 ≤ a
  · by_cases h2 : a ≤ 1073741824
    · by_cases h3 : 0 ≤ b
      · by_cases h4 : b < 7
        · simp (disch := omega) only [go_sem, dec_t h1, dec_t h2, dec_t h3, dec_t h4]
          exact ⟨by simp [h1, h2, h3, h4], Fr.new _ hb1⟩
        · simp (disch := omega) only [go_sem, dec_t h1, dec_t h2, dec_t h3, dec_f h4]
          exact ⟨by simp [h1, h2, h3, h4], Fr.new _ hb1⟩
      · simp (disch := omega) only [go_sem, dec_t h1, dec_t h2, dec_f h3, undef, Bool.false_eq_true]
        exact ⟨by simp [h1, h2, h3], Fr.new _ hb1⟩
    · simp (disch := omega) only [go_sem, dec_t h1, dec_f h2, undef, Bool.false_eq_true]
      exact ⟨by simp [h1, h2], Fr.new _ hb1⟩
  · simp (disch := omega) only [go_sem, dec_f h1, undef, Bool.false_eq_true]
    exact ⟨by simp [h1], Fr.new _ hb1⟩
theorem right_spec (a b : Int) (m : Mem) : MC Try.prog 23 [.agg #[.int .i64 a, .int .i64 b]] m fun v m' => v = .bool (decide (0 ≤ a ∧ a < 7 ∧ 1 ≤ b ∧ b ≤ 1073741824)) ∧ Fr m m' [] := by
  refine MC_start Try.func23 right__ok (by kernel_rfl) (by simp [Try.f23]) ?_
  simp (disch := omega) only [go_sem]
  refine newP_intro fun b1 hb1 => ?_
  by_cases h1 : 0 ≤ a
  · by_cases h2 : a < 7
    · by_cases h3 : 1 ≤ b
      · by_cases h4 : b ≤ 1073741824
        · simp (disch := omega) only [go_sem, dec_t h1, dec_t h2, dec_t h3, dec_t h4]
          exact ⟨by simp [h1, h2, h3, h4], Fr.new _ hb1⟩
        · simp (disch := omega) only [go_sem, dec_t h1, dec_t h2, dec_t h3, dec_f h4]
          exact ⟨by simp [h1, h2, h3, h4], Fr.new _ hb1⟩
      · simp (disch := omega) only [go_sem, dec_t h1, dec_t h2, dec_f h3, undef, Bool.false_eq_true]
        exact ⟨by simp [h1, h2, h3], Fr.new _ hb1⟩
    · simp (disch := omega) only [go_sem, dec_t h1, dec_f h2, undef, Bool.false_eq_true]
      exact ⟨by simp [h1, h2], Fr.new _ hb1⟩
  · simp (disch := omega) only [go_sem, dec_f h1, undef, Bool.false_eq_true]
    exact ⟨by simp [h1], Fr.new _ hb1⟩
/-- 'Within' at small bounds -/
theorem within_spec (n lo hi : Int) (m : Mem) (hlo : 0 ≤ lo) (h : lo ≤ hi) (hhi : hi ≤ 1000000) : MC Try.prog 21 [.int .i64 n, .int .i64 lo, .int .i64 hi] m fun v m' => (∃ k : Int, v = .int .i64 k ∧ lo ≤ k ∧ k ≤ hi) ∧ m' = m := by
  refine MC_start Try.func21 within__ok (by kernel_rfl) (by simp [Try.f21]) ?_
  have hne : hi - lo + 1 ≠ 0 := by omega
  have h1 : (n.tmod (hi - lo + 1)) < hi - lo + 1 := Int.tmod_lt_of_pos _ (by omega)
  have h2 : -(hi - lo + 1) < n.tmod (hi - lo + 1) := by
    have := Int.lt_tmod_of_pos n (b := hi - lo + 1) (by omega)
    omega
  simp (disch := omega) only [go_sem]
  generalize n.tmod (hi - lo + 1) = t at h1 h2 ⊢
  refine condB_dec (fun hlt => ?_) (fun hge => ?_)
  · simp (disch := omega) only [go_sem]
    exact ⟨⟨_, rfl, by omega, by omega⟩, rfl⟩
  · simp (disch := omega) only [go_sem]
    exact ⟨⟨_, rfl, by omega, by omega⟩, rfl⟩
end Go.Fw
