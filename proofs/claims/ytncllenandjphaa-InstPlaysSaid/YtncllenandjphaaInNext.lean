import Derived.Test.YtncllenandjphaaInRuns
namespace Go.Fw
open Go.Proofs
def ints (l : List Int) : List Value := l.map (Value.int .i64)
theorem ints_get (l : List Int) (i : Nat) (h : i < l.length) : (ints l)[i]? = some (.int .i64 l[i]) := by simp [ints, h]
/-- a slice that reads as the numbers l -/
def RdI (m : Mem) (v : Value) (l : List Int) : Prop := ∃ a c, v = .slice a l.length c ∧ Rd1 m a (ints l)
def nextRest : NC := .seq (.seq inext_r2 (.block 0 (.loop [1, 2, 3, 9, 10] inext_l0))) (.seq inext_r9 (.seq inext_r10 .ret))
def nextBody : NC := .seq (.seq inext_r5 (.cond (.slot 51) (.seq inext_r6 .ret) .skip)) inext_r7
def nextLoop : NC := .seq (.seq inext_r3 (.cond (.slot 28) .skip (.exit 0))) (.seq (.block 1 (.seq inext_r4 nextBody)) inext_r8)

theorem pair_cells {m : Mem} {b : Nat} {x y : Int} {T : Nat} (h : m b = some (.cells #[.int .i64 x, .int .i64 y] T (0, 0))) : cellAt (m b) 0 = some (.int .i64 x) ∧ cellAt (m b) 1 = some (.int .i64 y) := by
  rw [h]; exact ⟨rfl, rfl⟩

set_option maxHeartbeats 1000000 in
theorem nextEnd {m m' : Mem} {xb : Nat} {e r p q : Int} (hx : m' xb = some (.cells #[.int .i64 e, .int .i64 r] 35 (0, 0))) (f : Fr m m' []) (he : 0 ≤ e ∧ e ≤ 1000000) :
    wpN Try.prog (.seq inext_r10 .ret) (retP [.slot 8] fun v m' => v = .bool true ∧ Fr m m' []) [(9, .pointer (some ⟨xb, 0, none⟩)), (12, .int .i64 p), (13, .int .i64 q)] m' := by
  simp (disch := omega) only [go_sem, hx]
  refine call_with (next_spec e r p m') ?_
  rintro v m1 ⟨rfl, f1⟩
  have hx1 := f1.get0 hx
  simp (disch := omega) only [go_sem, hx1]
  refine call_with (next_spec e r q m1) ?_
  rintro v m2 ⟨rfl, f2⟩
  simp (disch := omega) only [go_sem, decide_true, Bool.true_and, beq_self_eq_true, Bool.false_eq_true, if_false, if_true]
  refine call_with (runs_spec m2) ?_
  rintro v m3 ⟨rfl, f3⟩
  simp (disch := omega) only [go_sem, if_true]
  exact ⟨rfl, ((f.trans0 f1).trans0 f2).trans0 f3⟩

/-- what the loop keeps -/
def NextI (m : Mem) (m' : Mem) (xb : Nat) (k : Nat) : Prop := ∃ e r : Int, m' xb = some (.cells #[.int .i64 e, .int .i64 r] 35 (0, 0)) ∧ Fr m m' [] ∧ m xb = none ∧ 0 ≤ e ∧ e ≤ 1000 + k ∧ 0 ≤ r ∧ r ≤ 6

set_option maxHeartbeats 1000000 in
theorem nextBody_spec {m m' : Mem} {u : Value} {xb yb : Nat} {k : Nat} {a c e r r2 : Int} {Q : Exit → Env → Mem → Prop} (hk : k < 30)
    (hx : m' xb = some (.cells #[.int .i64 e, .int .i64 r] 35 (0, 0))) (hy : m' yb = some (.cells #[.int .i64 (e + 1), .int .i64 r2] 35 (0, 0))) (hxy : xb ≠ yb) (f : Fr m m' []) (hm : m xb = none) (he : 0 ≤ e ∧ e ≤ 1000 + k) (hr : 0 ≤ r2 ∧ r2 ≤ 6)
    (hQ : ∀ m2, NextI m m2 xb (k + 1) → Q .normal [(1, u), (2, .int .i64 a), (3, .int .i64 c), (9, .pointer (some ⟨xb, 0, none⟩)), (10, .int .i64 (k : Nat))] m2) :
    wpN Try.prog nextBody Q [(1, u), (2, .int .i64 a), (3, .int .i64 c), (9, .pointer (some ⟨xb, 0, none⟩)), (10, .int .i64 (k : Nat)), (11, .pointer (some ⟨yb, 0, none⟩))] m' := by
  unfold nextBody
  simp (disch := omega) only [go_sem, hx, hy]
  refine call_with (below_spec e r (e + 1) r2 m') ?_
  rintro v m1 ⟨rfl, f1⟩
  have hx1 := f1.get0 hx
  have hy1 := f1.get0 hy
  simp (disch := omega) only [go_sem, dec_t, Bool.not_true, hx1, hy1]
  refine call_with (below_spec (e + 1) r2 e r m1) ?_
  rintro v m2 ⟨rfl, f2⟩
  have hx2 := f2.get0 hx1
  have hy2 := f2.get0 hy1
  simp (disch := omega) only [go_sem, dec_f, Bool.false_eq_true, if_false, hx2, hy2]
  refine call_with (rball_spec (e + 1) r2 m2) ?_
  rintro v m3 ⟨rfl, f3⟩
  have hx3 := f3.get0 hx2
  have hy3 := f3.get0 hy2
  simp (disch := omega) only [go_sem, dec_t, Bool.not_true, Bool.false_eq_true, if_false, hx3, hy3]
  refine hQ _ ⟨e + 1, r2, set_self _ _, (((f.trans0 f1).trans0 f2).trans0 f3).trans (Fr.set (S := [xb]) (by simp)) (fun x hx hx0 => by simp at hx; subst hx; exact absurd hm hx0), hm, by omega, by omega, by omega, by omega⟩

set_option maxHeartbeats 1000000 in
theorem nextStep_spec {m m' : Mem} {u : Value} {l : List Int} {xb : Nat} {k : Nat} {a c : Int} {Q : Exit → Env → Mem → Prop} (hk : k < 30) (hkl : k < l.length) (hu : RdI m u l) (hI : NextI m m' xb k)
    (hQ : ∀ m2, NextI m m2 xb (k + 1) → Q .normal [(1, u), (2, .int .i64 a), (3, .int .i64 c), (9, .pointer (some ⟨xb, 0, none⟩)), (10, .int .i64 (k : Nat))] m2) :
    wpN Try.prog (.seq inext_r4 nextBody) Q [(1, u), (2, .int .i64 a), (3, .int .i64 c), (9, .pointer (some ⟨xb, 0, none⟩)), (10, .int .i64 (k : Nat))] m' := by
  obtain ⟨e, r, hx, f, hm, he, he2, hr, hr2⟩ := hI
  obtain ⟨ua, uc, rfl, ha⟩ := hu
  obtain ⟨b1, o1, rfl, hc1⟩ := (ha.frame f).at (i := k) (by simpa [ints] using hkl)
  simp only [ints, List.getElem_map] at hc1
  have new : ∀ {M : Mem} {yb : Nat} {o : Obj}, Fr m' M [] → M yb = none → xb ≠ yb ∧ Fr m' (M.set yb o) [] ∧ (M.set yb o) xb = some (.cells #[.int .i64 e, .int .i64 r] 35 (0, 0)) ∧ cellAt ((M.set yb o) b1) (o1 + k) = some (.int .i64 l[k]) := by
    intro M yb o g hb
    have hne : xb ≠ yb := by rintro rfl; rw [g.get0 hx] at hb; cases hb
    have g2 := g.trans0 (Fr.new (o := o) [] hb)
    exact ⟨hne, g2, by rw [set_ne _ _ _ hne]; exact g.get0 hx, g2.cellAt hc1 (by simp)⟩
  have fin : ∀ (M : Mem) (yb : Nat) (q : Int), Fr m' M [] → m' yb = none → xb ≠ yb → 0 ≤ q ∧ q ≤ 6 → M xb = some (.cells #[.int .i64 e, .int .i64 r] 35 (0, 0)) → M yb = some (.cells #[.int .i64 0, .int .i64 0] 35 (0, 0)) →
      wpN Try.prog nextBody Q [(1, .slice (some ⟨b1, o1, none⟩) l.length uc), (2, .int .i64 a), (3, .int .i64 c), (9, .pointer (some ⟨xb, 0, none⟩)), (10, .int .i64 (k : Nat)), (11, .pointer (some ⟨yb, 0, none⟩))] (M.set yb (.cells #[.int .i64 (e + 1), .int .i64 q] 35 (0, 0))) := by
    intro M yb q g hyb hne hq hM hy
    refine nextBody_spec hk (by rw [set_ne _ _ _ hne]; exact hM) (set_self _ _) hne ?_ hm ⟨he, he2⟩ hq hQ
    exact f.trans (g.trans (Fr.set (S := [yb]) (by simp)) (fun x hx hx0 => by simp at hx; subst hx; exact absurd hyb hx0)) (fun x hx => by cases hx)
  have hw : IntKind.i64.wrap (e + 1) = e + 1 := IntWalk.i64_in _ (by omega)
  simp (disch := omega) only [go_sem, hx, hc1]
  refine both_intro ?_ ?_
  · simp (disch := omega) only [go_sem]
    refine call_with (within_spec l[k] 0 6 m' (by omega) (by omega) (by omega)) ?_
    rintro v m1 ⟨⟨q, rfl, hq1, hq2⟩, rfl⟩
    simp (disch := omega) only [go_sem, hx, hc1]
    refine both_intro ?_ ?_
    · simp (disch := omega) only [go_sem]
      refine call_with (next_spec e r q m1) ?_
      rintro v m2 ⟨rfl, f2⟩
      rw [hw]
      simp (disch := omega) only [go_sem]
      refine newP_intro fun yb hyb => ?_
      obtain ⟨h1, h2, h3, h4⟩ := new (o := .cells #[.int .i64 0, .int .i64 0] 35 (0, 0)) f2 hyb
      have h5 := set_self (m := m2) yb (.cells #[.int .i64 0, .int .i64 0] 35 (0, 0))
      generalize m2.set yb (.cells #[.int .i64 0, .int .i64 0] 35 (0, 0)) = M at h2 h3 h4 h5 ⊢
      simp (disch := omega) only [go_sem, h3, h4, h5]
      exact fin M yb q h2 (fresh_fr f2 hyb) h1 ⟨hq1, hq2⟩ h3 h5
    · simp (disch := omega) only [go_sem]
      refine newP_intro fun yb hyb => ?_
      obtain ⟨h1, h2, h3, h4⟩ := new (o := .cells #[.int .i64 0, .int .i64 0] 35 (0, 0)) (Fr.refl _ _) hyb
      have h5 := set_self (m := m1) yb (.cells #[.int .i64 0, .int .i64 0] 35 (0, 0))
      generalize m1.set yb (.cells #[.int .i64 0, .int .i64 0] 35 (0, 0)) = M at h2 h3 h4 h5 ⊢
      simp (disch := omega) only [go_sem, h3, h4]
      refine call_with (next_spec e r q M) ?_
      rintro v m2 ⟨rfl, f2⟩
      rw [hw]
      have h5' := f2.get0 h5
      simp (disch := omega) only [go_sem, h5']
      exact fin m2 yb q (h2.trans0 f2) hyb h1 ⟨hq1, hq2⟩ (f2.get0 h3) h5'
  · simp (disch := omega) only [go_sem]
    refine newP_intro fun yb hyb => ?_
    obtain ⟨h1, h2, h3, h4⟩ := new (o := .cells #[.int .i64 0, .int .i64 0] 35 (0, 0)) (Fr.refl _ _) hyb
    have h5 := set_self (m := m') yb (.cells #[.int .i64 0, .int .i64 0] 35 (0, 0))
    generalize m'.set yb (.cells #[.int .i64 0, .int .i64 0] 35 (0, 0)) = M at h2 h3 h4 h5 ⊢
    simp (disch := omega) only [go_sem, h3, h4]
    refine call_with (within_spec l[k] 0 6 M (by omega) (by omega) (by omega)) ?_
    rintro v m1 ⟨⟨q, rfl, hq1, hq2⟩, rfl⟩
    simp (disch := omega) only [go_sem, h3]
    refine call_with (next_spec e r q m1) ?_
    rintro v m2 ⟨rfl, f2⟩
    rw [hw]
    have h5' := f2.get0 h5
    simp (disch := omega) only [go_sem, h5']
    exact fin m2 yb q (h2.trans0 f2) hyb h1 ⟨hq1, hq2⟩ (f2.get0 h3) h5'

set_option maxHeartbeats 1000000 in
theorem nextRest_spec {m m' : Mem} {u : Value} {l : List Int} {xb : Nat} {a c : Int} (hu : RdI m u l) (hl : l.length ≤ 9223372036854775807) (hI : NextI m m' xb 0) :
    wpN Try.prog nextRest (retP [.slot 8] fun v m' => v = .bool true ∧ Fr m m' []) [(1, u), (2, .int .i64 a), (3, .int .i64 c), (9, .pointer (some ⟨xb, 0, none⟩))] m' := by
  have hu' := hu
  obtain ⟨ua, uc, rfl, ha⟩ := hu
  unfold nextRest
  rw [show inext_l0 = nextLoop from rfl]
  generalize hEnd : NC.seq inext_r10 NC.ret = End
  simp (disch := omega) only [go_sem]
  refine loopQ_intro (fun n E m' => ∃ k : Nat, k ≤ 30 ∧ k ≤ l.length ∧ n = 30 - k ∧ E = [(1, .slice ua l.length uc), (2, .int .i64 a), (3, .int .i64 c), (9, .pointer (some ⟨xb, 0, none⟩)), (10, .int .i64 (k : Nat))] ∧ NextI m m' xb k) 30 rfl
    ⟨0, by omega, by omega, by omega, rfl, hI⟩ ?_
  clear hI m'
  rintro n E m' ⟨k, hk, hkl, rfl, rfl, hI⟩
  unfold nextLoop
  generalize hStep : NC.seq inext_r4 nextBody = Step
  have stop : (wpN Try.prog (.seq inext_r9 End) (retP [.slot 8] fun v m' => v = .bool true ∧ Fr m m' []) [(1, .slice ua l.length uc), (2, .int .i64 a), (3, .int .i64 c), (9, .pointer (some ⟨xb, 0, none⟩)), (10, .int .i64 (k : Nat))] m') := by
    simp (disch := omega) only [go_sem]
    refine call_with (within_spec a 0 6 m' (by omega) (by omega) (by omega)) ?_
    rintro v m1 ⟨⟨p, rfl, _⟩, rfl⟩
    simp (disch := omega) only [go_sem]
    refine call_with (within_spec c 0 6 m1 (by omega) (by omega) (by omega)) ?_
    rintro v m2 ⟨⟨q, rfl, _⟩, rfl⟩
    simp (disch := omega) only [go_sem]
    obtain ⟨e, r, hx, f, hm, he, he2, _⟩ := hI
    rw [← hEnd]
    exact nextEnd hx f ⟨he, by omega⟩
  by_cases h1 : k < l.length
  · by_cases h2 : k < 30
    · simp (disch := omega) only [go_sem, dec_t]
      rw [← hStep]
      refine nextStep_spec h2 h1 hu' hI fun m2 hI2 => ?_
      simp (disch := omega) only [go_sem]
      exact handN_intro (30 - (k + 1)) (by omega) ⟨k + 1, by omega, by omega, rfl, rfl, hI2⟩
    · simp (disch := omega) only [go_sem, dec_t, dec_f]
      simp (disch := omega) only [go_sem] at stop
      exact stop
  · simp (disch := omega) only [go_sem, dec_f, undef, Bool.false_eq_true, if_false]
    simp (disch := omega) only [go_sem] at stop
    exact stop

set_option maxHeartbeats 1000000 in
theorem inext_spec (m : Mem) (e r a c : Int) (u : Value) (l : List Int) (hu : RdI m u l) (hl : l.length ≤ 9223372036854775807) :
    MC Try.prog 6 [.agg #[.int .i64 e, .int .i64 r], u, .int .i64 a, .int .i64 c] m fun v m' => v = .bool true ∧ Fr m m' [] := by
  refine MC_start Try.func6 inext_ok (by kernel_rfl) (by simp [Try.f6]) ?_
  show wpN Try.prog (.seq inext_r0 (.seq inext_r1 nextRest)) _ _ _
  simp (disch := omega) only [go_sem]
  refine newP_intro fun b hb => ?_
  have f1 := Fr.new (o := .cells #[.int .i64 e, .int .i64 r] 35 (0, 0)) [] hb
  have h1 := set_self (m := m) b (.cells #[.int .i64 e, .int .i64 r] 35 (0, 0))
  generalize m.set b (.cells #[.int .i64 e, .int .i64 r] 35 (0, 0)) = M at f1 h1 ⊢
  clear hb
  have fin : ∀ (N : Mem) (xb : Nat) (p q : Int), Fr M N [] → M xb = none → 0 ≤ p → p ≤ 1000 → 0 ≤ q → q ≤ 6 →
      wpN Try.prog nextRest (retP [.slot 8] fun v m' => v = .bool true ∧ Fr m m' []) [(1, u), (2, .int .i64 a), (3, .int .i64 c), (9, .pointer (some ⟨xb, 0, none⟩))] (N.set xb (.cells #[.int .i64 p, .int .i64 q] 35 (0, 0))) := by
    intro N xb p q g hxb hp hp2 hq hq2
    have hxm := fresh_fr f1 hxb
    exact nextRest_spec hu hl ⟨p, q, set_self _ _, (f1.trans0 g).trans (Fr.set (S := [xb]) (by simp)) (fun x hx hx0 => by simp at hx; subst hx; exact absurd hxm hx0), hxm, hp, by omega, hq, hq2⟩
  simp (disch := omega) only [go_sem, h1]
  refine both_intro ?_ ?_
  · simp (disch := omega) only [go_sem]
    refine call_with (within_spec e 0 1000 M (by omega) (by omega) (by omega)) ?_
    rintro v m1 ⟨⟨p, rfl, hp1, hp2⟩, rfl⟩
    simp (disch := omega) only [go_sem, h1]
    refine both_intro ?_ ?_
    · simp (disch := omega) only [go_sem]
      refine call_with (within_spec r 0 6 m1 (by omega) (by omega) (by omega)) ?_
      rintro v m2 ⟨⟨q, rfl, hq1, hq2⟩, rfl⟩
      simp (disch := omega) only [go_sem]
      refine newP_intro fun xb hxb => ?_
      have g := Fr.new (o := .cells #[.int .i64 0, .int .i64 0] 35 (0, 0)) [] hxb
      have h3 := set_self (m := m2) xb (.cells #[.int .i64 0, .int .i64 0] 35 (0, 0))
      generalize m2.set xb (.cells #[.int .i64 0, .int .i64 0] 35 (0, 0)) = N at g h3 ⊢
      have h2 := g.get0 h1
      simp (disch := omega) only [go_sem, h2, h3]
      exact fin N xb p q g hxb hp1 hp2 hq1 hq2
    · simp (disch := omega) only [go_sem]
      refine newP_intro fun xb hxb => ?_
      have g := Fr.new (o := .cells #[.int .i64 0, .int .i64 0] 35 (0, 0)) [] hxb
      have h3 := set_self (m := m1) xb (.cells #[.int .i64 0, .int .i64 0] 35 (0, 0))
      generalize m1.set xb (.cells #[.int .i64 0, .int .i64 0] 35 (0, 0)) = N at g h3 ⊢
      have h2 := g.get0 h1
      simp (disch := omega) only [go_sem, h2]
      refine call_with (within_spec r 0 6 N (by omega) (by omega) (by omega)) ?_
      rintro v m2 ⟨⟨q, rfl, hq1, hq2⟩, rfl⟩
      simp (disch := omega) only [go_sem, h3]
      exact fin _ xb p q g hxb hp1 hp2 hq1 hq2
  · simp (disch := omega) only [go_sem]
    refine newP_intro fun xb hxb => ?_
    have g := Fr.new (o := .cells #[.int .i64 0, .int .i64 0] 35 (0, 0)) [] hxb
    have h3 := set_self (m := M) xb (.cells #[.int .i64 0, .int .i64 0] 35 (0, 0))
    generalize M.set xb (.cells #[.int .i64 0, .int .i64 0] 35 (0, 0)) = N at g h3 ⊢
    have h2 := g.get0 h1
    simp (disch := omega) only [go_sem, h2]
    refine call_with (within_spec e 0 1000 N (by omega) (by omega) (by omega)) ?_
    rintro v m1 ⟨⟨p, rfl, hp1, hp2⟩, rfl⟩
    simp (disch := omega) only [go_sem, h2]
    refine call_with (within_spec r 0 6 m1 (by omega) (by omega) (by omega)) ?_
    rintro v m2 ⟨⟨q, rfl, hq1, hq2⟩, rfl⟩
    simp (disch := omega) only [go_sem, h3]
    exact fin _ xb p q g hxb hp1 hp2 hq1 hq2
end Go.Fw
