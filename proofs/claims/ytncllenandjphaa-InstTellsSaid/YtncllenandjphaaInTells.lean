import Derived.Test.YtncllenandjphaaInNext
namespace Go.Fw
open Go.Proofs
def tells_t : ET :=
    (.q 22 (.lda 2) [(.slot 5)] (some ((.res 20), true))
    (.q 23 (.lda 2) [(.slot 6)] (some ((.res 20), true))
    (.q 25 (.lda 2) [(.slot 5)] (some ((.res 20), true))
    (.q 26 (.lda 2) [(.slot 6)] (some ((.res 20), true))
    (.x 24 (.call 15) [(.res 22), (.res 23)] (some ((.res 20), true)) [(25, (.lda 2), [(.slot 5)], (some ((.res 20), true))), (26, (.lda 2), [(.slot 6)], (some ((.res 20), true)))]
    (.x 27 (.call 20) [(.res 25), (.res 26)] (some ((.res 20), true)) []
    (.q 28 (.beq false) [(.res 24), (.res 27)] (some ((.res 20), true))
    (.q 29 .pick [(.res 20), (.res 28), (.const (.bool false))] none
    (.q 31 (.lda 2) [(.slot 7)] (some ((.res 29), true))
    (.q 32 (.lda 2) [(.slot 8)] (some ((.res 29), true))
    (.q 34 (.lda 2) [(.slot 7)] (some ((.res 29), true))
    (.q 35 (.lda 2) [(.slot 8)] (some ((.res 29), true))
    (.x 33 (.call 16) [(.res 31), (.res 32)] (some ((.res 29), true)) [(34, (.lda 2), [(.slot 7)], (some ((.res 29), true))), (35, (.lda 2), [(.slot 8)], (some ((.res 29), true)))]
    (.x 36 (.call 24) [(.res 34), (.res 35)] (some ((.res 29), true)) []
    (.q 37 (.beq false) [(.res 33), (.res 36)] (some ((.res 29), true))
    (.q 38 .pick [(.res 29), (.res 37), (.const (.bool false))] none
    (.q 40 (.lda 2) [(.slot 7)] (some ((.res 38), true))
    (.q 42 .mv [(.slot 11)] (some ((.res 38), true))
    (.x 41 (.call 22) [(.res 40)] (some ((.res 38), true)) []
    (.q 43 (.beq false) [(.res 41), (.res 42)] (some ((.res 38), true))
    (.q 44 .pick [(.res 38), (.res 43), (.const (.bool false))] none
    (.q 46 (.fld 0) [(.slot 7)] (some ((.res 44), true))
    (.q 47 .ld [(.res 46)] (some ((.res 44), true))
    (.q 48 (.icm .eql) [(.res 47), (.const (.int .i64 9223372036854775807))] (some ((.res 44), true))
    (.q 49 .mv [(.res 48)] (some ((.res 44), true))
    (.q 50 (.lda 2) [(.slot 7)] (some ((.res 49), false))
    (.q 51 .mv [(.slot 4)] (some ((.res 49), false))
    (.q 53 (.fld 0) [(.slot 7)] (some ((.res 49), false))
    (.q 54 .ld [(.res 53)] (some ((.res 49), false))
    (.q 55 (.iar .add) [(.res 54), (.const (.int .i64 1))] (some ((.res 49), false))
    (.q 56 .mv [(.slot 4)] (some ((.res 49), false))
    (.q 57 (.bld [(.int .i64 0), (.int .i64 0)] [(0, 1), (1, 1)]) [(.res 55), (.res 56)] (some ((.res 49), false))
    (.x 52 (.call 17) [(.res 50), (.res 51)] (some ((.res 49), false)) [(54, .ld, [(.res 53)], (some ((.res 49), false)))]
    (.q 58 (.eqc false [(.i .i64), (.i .i64)]) [(.res 52), (.res 57)] (some ((.res 49), false))
    (.q 59 .pick [(.res 49), (.const (.bool true)), (.res 58)] (some ((.res 44), true))
    (.q 60 .pick [(.res 44), (.res 59), (.const (.bool false))] none
    (.x 62 (.call 3) [] (some ((.res 60), true)) []
    (.q 63 .pick [(.res 60), (.res 62), (.const (.bool false))] none
    (.out [(10, (.res 63))])))))))))))))))))))))))))))))))))))))))
def tellsRest : NC := .seq (.reg
    (.q 0 (.lda 2) [(.slot 5)] none
    (.q 2 (.fld 0) [(.slot 5)] none
    (.q 3 .ld [(.res 2)] none
    (.q 4 (.icm .geq) [(.res 3), (.const (.int .i64 0))] none
    (.x 1 (.call 23) [(.res 0)] none [(3, .ld, [(.res 2)], none)]
    (.q 6 (.fld 0) [(.slot 5)] (some ((.res 4), true))
    (.q 7 .ld [(.res 6)] (some ((.res 4), true))
    (.q 8 (.icm .lss) [(.res 7), (.const (.int .i64 7))] (some ((.res 4), true))
    (.q 9 .pick [(.res 4), (.res 8), (.const (.bool false))] none
    (.q 11 (.fld 1) [(.slot 5)] (some ((.res 9), true))
    (.q 12 .ld [(.res 11)] (some ((.res 9), true))
    (.q 13 (.icm .geq) [(.res 12), (.const (.int .i64 1))] (some ((.res 9), true))
    (.q 14 .pick [(.res 9), (.res 13), (.const (.bool false))] none
    (.q 16 (.fld 1) [(.slot 5)] (some ((.res 14), true))
    (.q 17 .ld [(.res 16)] (some ((.res 14), true))
    (.q 18 (.icm .leq) [(.res 17), (.const (.int .i64 1073741824))] (some ((.res 14), true))
    (.q 19 .pick [(.res 14), (.res 18), (.const (.bool false))] none
    (.q 20 (.beq false) [(.res 1), (.res 19)] none
    tells_t))))))))))))))))))
    [4, 5, 6, 7, 8, 11]) .ret
set_option maxHeartbeats 1000000 in
theorem tells_t_spec {m M : Mem} {K : Env → Mem → Prop} {σ : Env} {b1 b2 b3 b4 : Nat} {r a1 a2 c1 c2 x1 x2 y1 y2 : Int} (hσ : σ.get 20 = .bool true) (f : Fr m M []) (hK : ∀ m', Fr m m' [] → K [(10, .bool true)] m')
    (h1 : M b1 = some (.cells #[.int .i64 a1, .int .i64 a2] 25 (0, 0))) (h2 : M b2 = some (.cells #[.int .i64 c1, .int .i64 c2] 25 (0, 0)))
    (h3 : M b3 = some (.cells #[.int .i64 x1, .int .i64 x2] 35 (0, 0))) (h4 : M b4 = some (.cells #[.int .i64 y1, .int .i64 y2] 35 (0, 0))) :
    etP Try.prog (Env.get [(4, .int .i64 r), (5, .pointer (some ⟨b1, 0, none⟩)), (6, .pointer (some ⟨b2, 0, none⟩)), (7, .pointer (some ⟨b3, 0, none⟩)), (8, .pointer (some ⟨b4, 0, none⟩)),
      (11, .bool (decide (0 ≤ x1 ∧ x1 ≤ 1073741824 ∧ 0 ≤ x2 ∧ x2 < 7)))]) tells_t σ M K := by
  unfold tells_t
  simp (disch := omega) only [go_sem, hσ, h1, h2]
  refine call_with (less_spec a1 a2 c1 c2 M) ?_
  rintro v m1 ⟨rfl, f1⟩
  have k1 := f1.get0 h1
  have k2 := f1.get0 h2
  simp (disch := omega) only [go_sem, hσ, k1, k2]
  refine call_with (rless_spec a1 a2 c1 c2 m1) ?_
  rintro v m2 ⟨rfl, f2⟩
  have k3 := f2.get0 (f1.get0 h3)
  have k4 := f2.get0 (f1.get0 h4)
  simp (disch := omega) only [go_sem, hσ, k3, k4, beq_self_eq_true, Bool.false_eq_true, if_false, if_true]
  refine call_with (below_spec x1 x2 y1 y2 m2) ?_
  rintro v m3 ⟨rfl, f3⟩
  have j3 := f3.get0 k3
  have j4 := f3.get0 k4
  simp (disch := omega) only [go_sem, hσ, j3, j4]
  refine call_with (rbelow_spec x1 x2 y1 y2 m3) ?_
  rintro v m4 ⟨rfl, f4⟩
  have i3 := f4.get0 j3
  simp (disch := omega) only [go_sem, hσ, i3, beq_self_eq_true, Bool.false_eq_true, if_false, if_true]
  refine call_with (rball_spec x1 x2 m4) ?_
  rintro v m5 ⟨rfl, f5⟩
  have l3 := f5.get0 i3
  have fa := ((((f.trans0 f1).trans0 f2).trans0 f3).trans0 f4).trans0 f5
  clear f1 f2 f3 f4 f5 k1 k2 k3 k4 j3 j4 i3
  by_cases hx : x1 = 9223372036854775807
  · subst hx
    simp (disch := omega) only [go_sem, hσ, l3, beq_self_eq_true, Bool.false_eq_true, if_false, if_true, decide_true, undef]
    refine call_with (runs_spec m5) ?_
    rintro v m6 ⟨rfl, f6⟩
    simp (disch := omega) only [go_sem, if_true]
    exact hK _ (fa.trans0 f6)
  · have hx' : decide (x1 = 9223372036854775807) = false := decide_eq_false hx
    simp (disch := omega) only [go_sem, hσ, l3, beq_self_eq_true, Bool.false_eq_true, if_false, if_true, hx']
    refine call_with (next_spec x1 x2 r m5) ?_
    rintro v m6 ⟨rfl, f6⟩
    have l4 := f6.get0 l3
    simp (disch := omega) only [go_sem, l4, decide_true, Bool.true_and, Bool.false_eq_true, if_false, if_true]
    refine call_with (runs_spec m6) ?_
    rintro v m7 ⟨rfl, f7⟩
    simp (disch := omega) only [go_sem, if_true]
    exact hK _ ((fa.trans0 f6).trans0 f7)

set_option maxHeartbeats 1000000 in
theorem tellsRest_spec {m M : Mem} {b1 b2 b3 b4 : Nat} {r a1 a2 c1 c2 x1 x2 y1 y2 : Int} (f : Fr m M [])
    (h1 : M b1 = some (.cells #[.int .i64 a1, .int .i64 a2] 25 (0, 0))) (h2 : M b2 = some (.cells #[.int .i64 c1, .int .i64 c2] 25 (0, 0)))
    (h3 : M b3 = some (.cells #[.int .i64 x1, .int .i64 x2] 35 (0, 0))) (h4 : M b4 = some (.cells #[.int .i64 y1, .int .i64 y2] 35 (0, 0))) :
    wpN Try.prog tellsRest (retP [.slot 10] fun v m' => v = .bool true ∧ Fr m m' []) [(4, .int .i64 r), (5, .pointer (some ⟨b1, 0, none⟩)), (6, .pointer (some ⟨b2, 0, none⟩)), (7, .pointer (some ⟨b3, 0, none⟩)), (8, .pointer (some ⟨b4, 0, none⟩)),
      (11, .bool (decide (0 ≤ x1 ∧ x1 ≤ 1073741824 ∧ 0 ≤ x2 ∧ x2 < 7)))] M := by
  unfold tellsRest
  simp (disch := omega) only [go_sem, h1]
  refine call_with (right_spec a1 a2 M) ?_
  rintro v m1 ⟨rfl, f1⟩
  have k1 := f1.get0 h1
  by_cases p1 : 0 ≤ a1
  · by_cases p2 : a1 < 7
    · by_cases p3 : 1 ≤ a2
      · by_cases p4 : a2 ≤ 1073741824
        · simp (disch := omega) only [go_sem, k1, dec_t p1, dec_t p2, dec_t p3, dec_t p4]
          refine tells_t_spec (by simp [Env.get, p1, p2, p3, p4]) (f.trans0 f1) (fun m' hf => ?_) k1 (f1.get0 h2) (f1.get0 h3) (f1.get0 h4)
          simp (disch := omega) only [go_sem]
          exact ⟨rfl, hf⟩
        · simp (disch := omega) only [go_sem, k1, dec_t p1, dec_t p2, dec_t p3, dec_f p4]
          refine tells_t_spec (by simp [Env.get, p1, p2, p3, p4]) (f.trans0 f1) (fun m' hf => ?_) k1 (f1.get0 h2) (f1.get0 h3) (f1.get0 h4)
          simp (disch := omega) only [go_sem]
          exact ⟨rfl, hf⟩
      · simp (disch := omega) only [go_sem, k1, dec_t p1, dec_t p2, dec_f p3, undef, Bool.false_eq_true, if_false]
        refine tells_t_spec (by simp [Env.get, p1, p2, p3]) (f.trans0 f1) (fun m' hf => ?_) k1 (f1.get0 h2) (f1.get0 h3) (f1.get0 h4)
        simp (disch := omega) only [go_sem]
        exact ⟨rfl, hf⟩
    · simp (disch := omega) only [go_sem, k1, dec_t p1, dec_f p2, undef, Bool.false_eq_true, if_false]
      refine tells_t_spec (by simp [Env.get, p1, p2]) (f.trans0 f1) (fun m' hf => ?_) k1 (f1.get0 h2) (f1.get0 h3) (f1.get0 h4)
      simp (disch := omega) only [go_sem]
      exact ⟨rfl, hf⟩
  · simp (disch := omega) only [go_sem, k1, dec_f p1, undef, Bool.false_eq_true, if_false]
    refine tells_t_spec (by simp [Env.get, p1]) (f.trans0 f1) (fun m' hf => ?_) k1 (f1.get0 h2) (f1.get0 h3) (f1.get0 h4)
    simp (disch := omega) only [go_sem]
    exact ⟨rfl, hf⟩

set_option maxHeartbeats 1000000 in
theorem itells_spec (m : Mem) (a1 a2 c1 c2 x1 x2 y1 y2 r : Int) :
    MC Try.prog 7 [.agg #[.int .i64 a1, .int .i64 a2], .agg #[.int .i64 c1, .int .i64 c2], .agg #[.int .i64 x1, .int .i64 x2], .agg #[.int .i64 y1, .int .i64 y2], .int .i64 r] m fun v m' => v = .bool true ∧ Fr m m' [] := by
  refine MC_start Try.func7 itells_ok (by kernel_rfl) (by simp [Try.f7]) ?_
  show wpN Try.prog (.seq itells_r0 (.seq itells_r1 tellsRest)) _ _ _
  simp (disch := omega) only [go_sem]
  refine newP_intro fun b1 hb1 => ?_
  have f1 := Fr.new (o := .cells #[.int .i64 a1, .int .i64 a2] 25 (0, 0)) [] hb1
  have h1 := set_self (m := m) b1 (.cells #[.int .i64 a1, .int .i64 a2] 25 (0, 0))
  simp (disch := omega) only [go_sem]
  generalize m.set b1 (.cells #[.int .i64 a1, .int .i64 a2] 25 (0, 0)) = m1 at f1 h1 ⊢
  refine newP_intro fun b2 hb2 => ?_
  have f2 := Fr.new (o := .cells #[.int .i64 c1, .int .i64 c2] 25 (0, 0)) [] hb2
  have h2 := set_self (m := m1) b2 (.cells #[.int .i64 c1, .int .i64 c2] 25 (0, 0))
  simp (disch := omega) only [go_sem]
  generalize m1.set b2 (.cells #[.int .i64 c1, .int .i64 c2] 25 (0, 0)) = m2 at f2 h2 ⊢
  refine newP_intro fun b3 hb3 => ?_
  have f3 := Fr.new (o := .cells #[.int .i64 x1, .int .i64 x2] 35 (0, 0)) [] hb3
  have h3 := set_self (m := m2) b3 (.cells #[.int .i64 x1, .int .i64 x2] 35 (0, 0))
  simp (disch := omega) only [go_sem]
  generalize m2.set b3 (.cells #[.int .i64 x1, .int .i64 x2] 35 (0, 0)) = m3 at f3 h3 ⊢
  refine newP_intro fun b4 hb4 => ?_
  have f4 := Fr.new (o := .cells #[.int .i64 y1, .int .i64 y2] 35 (0, 0)) [] hb4
  have h4 := set_self (m := m3) b4 (.cells #[.int .i64 y1, .int .i64 y2] 35 (0, 0))
  simp (disch := omega) only [go_sem]
  generalize m3.set b4 (.cells #[.int .i64 y1, .int .i64 y2] 35 (0, 0)) = M at f4 h4 ⊢
  have k3 := f4.get0 h3
  have fin := tellsRest_spec (r := r) (((f1.trans0 f2).trans0 f3).trans0 f4) (f4.get0 (f3.get0 (f2.get0 h1))) (f4.get0 (f3.get0 h2)) k3 h4
  by_cases p1 : 0 ≤ x1
  · by_cases p2 : x1 ≤ 1073741824
    · by_cases p3 : 0 ≤ x2
      · by_cases p4 : x2 < 7
        · rw [dec_t ⟨p1, p2, p3, p4⟩] at fin
          simp (disch := omega) only [go_sem, k3, dec_t p1, dec_t p2, dec_t p3, dec_t p4]
          exact fin
        · rw [dec_f (fun h => p4 h.2.2.2)] at fin
          simp (disch := omega) only [go_sem, k3, dec_t p1, dec_t p2, dec_t p3, dec_f p4]
          exact fin
      · rw [dec_f (fun h => p3 h.2.2.1)] at fin
        simp (disch := omega) only [go_sem, k3, dec_t p1, dec_t p2, dec_f p3, undef, Bool.false_eq_true, if_false]
        exact fin
    · rw [dec_f (fun h => p2 h.2.1)] at fin
      simp (disch := omega) only [go_sem, k3, dec_t p1, dec_f p2, undef, Bool.false_eq_true, if_false]
      exact fin
  · rw [dec_f (fun h => p1 h.1)] at fin
    simp (disch := omega) only [go_sem, k3, dec_f p1, undef, Bool.false_eq_true, if_false]
    exact fin
end Go.Fw
