import Derived.Test.YtncllenandjphaaInListF
namespace Go.Fw
open Go.Proofs
theorem RdP.lit {m : Mem} {b : Nat} {l : List (Int × Int)} (n c : Nat) (h : m b = some (.cells (prs l).toArray 25 (0, 0))) (hn : n = l.length) : RdP m (.slice (some ⟨b, 0, none⟩) n c) l :=
  ⟨some ⟨b, 0, none⟩, c, by rw [hn], .inr ⟨b, 0, rfl, fun i x hx => by rw [h, cellAt_cells]; simpa using hx⟩⟩
set_option maxHeartbeats 400000 in
theorem runs_spec (m : Mem) : MC Try.prog 3 [] m fun v m' => v = .bool true ∧ Fr m m' [] := by
  refine MC_start Try.func3 iruns_ok (by kernel_rfl) (by simp [Try.f3]) ?_
  simp (disch := omega) only [go_sem]
  refine call_with (at_spec 1 2 m) ?_
  rintro v m1 ⟨rfl, f1⟩
  simp (disch := omega) only [go_sem]
  refine call_with (at_spec 0 3 m1) ?_
  rintro v m2 ⟨rfl, f2⟩
  simp (disch := omega) only [go_sem]
  refine call_with (at_spec 1 2 m2) ?_
  rintro v m3 ⟨rfl, f3⟩
  simp (disch := omega) only [go_sem]
  refine newP_intro fun b1 hb1 => ?_
  have f4 := Fr.new (o := .cells (prs [(1, 2), (0, 3), (1, 2)]).toArray 25) [] hb1
  have h4 := set_self (m := m3) b1 (.cells (prs [(1, 2), (0, 3), (1, 2)]).toArray 25)
  simp (disch := omega) only [go_sem]
  refine call_with (new_spec _ [(1, 2), (0, 3), (1, 2)] _ (RdP.lit 3 3 h4 rfl) (by decide)) ?_
  rintro v m5 ⟨sb, r, hset, f5, hsb, hr⟩
  have fa := (((f1.trans0 f2).trans0 f3).trans0 f4).trans0 f5
  have hrm := fresh_fr (((f1.trans0 f2).trans0 f3).trans0 f4) hr
  clear f1 f2 f3 f4 f5 h4 hb1 hsb hr
  rw [show addAll [((1 : Int), (2 : Int)), (0, 3), (1, 2)] = [(1, 2), (0, 3)] from by decide] at hset
  have hp := hset.ptr
  subst hp
  simp (disch := omega) only [go_sem, Option.isNone_some, Bool.false_eq_true, undef]
  have hl := len_spec hset
  rw [show (([((1 : Int), (2 : Int)), (0, 3)].length : Nat) : Int) = 2 from rfl] at hl
  refine call_with hl ?_
  rintro v m6 ⟨rfl, rfl⟩
  simp (disch := omega) only [go_sem, Bool.false_eq_true, if_false, dec_f, undef]
  refine call_with (list_spec hset (by decide)) ?_
  rintro u m7 ⟨l', hp, hasc, ho, f7, hfr⟩
  have hset7 := hset.frame f7 (by simp) (by simp)
  obtain rfl : l' = [(0, 3), (1, 2)] := by
    have : l'.Perm [(0, 3), (1, 2)] := hp.trans (by decide)
    refine List.Perm.eq_of_pairwise (le := lt2) (fun a b _ _ h1 h2 => ?_) hasc (by simp [lt2]) this
    unfold lt2 at *; omega
  have fb := fa.trans0 f7
  clear fa f7 hset hp hl
  simp (disch := omega) only [go_sem]
  refine call_with (at_spec 0 3 m7) ?_
  rintro v m8 ⟨rfl, f8⟩
  simp (disch := omega) only [go_sem]
  refine call_with (at_spec 1 2 m8) ?_
  rintro v m9 ⟨rfl, f9⟩
  simp (disch := omega) only [go_sem]
  refine newP_intro fun b2 hb2 => ?_
  have f10 := Fr.new (o := .cells (prs [(0, 3), (1, 2)]).toArray 25) [] hb2
  have h10 := set_self (m := m9) b2 (.cells (prs [(0, 3), (1, 2)]).toArray 25)
  simp (disch := omega) only [go_sem]
  have f8910 := (f8.trans0 f9).trans0 f10
  refine call_with (same_spec _ _ [(0, 3), (1, 2)] [(0, 3), (1, 2)] _ (ho.rdp.frame f8910) (RdP.lit 2 2 h10 rfl) (by decide) (by decide)) ?_
  rintro v m11 ⟨rfl, rfl⟩
  have hset11 := hset7.frame f8910 (by simp) (by simp)
  have fc := fb.trans0 f8910
  have h10' : m9.set b2 (Obj.cells #[Value.int IntKind.i64 0, Value.int IntKind.i64 3, Value.int IntKind.i64 1, Value.int IntKind.i64 2] 25) = m9.set b2 (.cells (prs [(0, 3), (1, 2)]).toArray 25) := rfl
  rw [← h10'] at hset11 fc
  generalize m9.set b2 (Obj.cells #[Value.int IntKind.i64 0, Value.int IntKind.i64 3, Value.int IntKind.i64 1, Value.int IntKind.i64 2] 25) = m10 at hset11 fc ⊢
  clear h10 h10' f8910 f8 f9 f10 ho fb hset7 hfr hasc hb2
  simp (disch := omega) only [go_sem, decide_true, Bool.not_true, Bool.false_eq_true, if_false, undef]
  refine call_with (at_spec 0 3 m10) ?_
  rintro v m11 ⟨rfl, f11⟩
  have hset1 := hset11.frame f11 (by simp) (by simp)
  simp (disch := omega) only [go_sem]
  refine call_with (add_spec hset1 (0, 3)) ?_
  rintro v m12 ⟨hv, hset2, f12⟩
  rw [show decide ((0, 3) ∉ [((1 : Int), (2 : Int)), (0, 3)]) = false from by decide] at hv
  subst hv
  rw [show addL [((1 : Int), (2 : Int)), (0, 3)] (0, 3) = [(1, 2), (0, 3)] from by decide] at hset2
  simp (disch := omega) only [go_sem]
  refine call_with (at_spec 1 2 m12) ?_
  rintro v m13 ⟨rfl, f13⟩
  have hset3 := hset2.frame f13 (by simp) (by simp)
  simp (disch := omega) only [go_sem]
  refine call_with (drop_spec hset3 (1, 2)) ?_
  rintro v m14 ⟨hv, hset4, f14⟩
  rw [show decide ((1, 2) ∈ [((1 : Int), (2 : Int)), (0, 3)]) = true from by decide] at hv
  subst hv
  rw [show [((1 : Int), (2 : Int)), (0, 3)].filter (· ≠ (1, 2)) = [(0, 3)] from by decide] at hset4
  have fr0 : ∀ x ∈ [r], m x ≠ none → x ∈ ([] : List Nat) := fun x hx hx0 => by simp at hx; subst hx; exact absurd hrm hx0
  have fd := ((((fc.trans0 f11).trans f12 fr0).trans0 f13).trans f14 fr0)
  clear fc f11 f12 f13 f14 hset1 hset2 hset3 hset11
  simp (disch := omega) only [go_sem]
  refine call_with (at_spec 0 9 m14) ?_
  rintro v m15 ⟨rfl, f15⟩
  simp (disch := omega) only [go_sem]
  refine call_with (at_spec 1 1 m15) ?_
  rintro v m16 ⟨rfl, f16⟩
  simp (disch := omega) only [go_sem]
  refine call_with (less_spec 0 9 1 1 m16) ?_
  rintro v m17 ⟨rfl, f17⟩
  simp (disch := omega) only [go_sem, dec_t]
  refine call_with (below_spec 1 5 2 0 m17) ?_
  rintro v m18 ⟨rfl, f18⟩
  simp (disch := omega) only [go_sem, dec_t]
  refine call_with (next_spec 3 1 2 m18) ?_
  rintro v m19 ⟨rfl, f19⟩
  have fe := ((((fd.trans0 f15).trans0 f16).trans0 f17).trans0 f18).trans0 f19
  have hset5 := ((((hset4.frame f15 (by simp) (by simp)).frame f16 (by simp) (by simp)).frame f17 (by simp) (by simp)).frame f18 (by simp) (by simp)).frame f19 (by simp) (by simp)
  clear fd f15 f16 f17 f18 f19 hset4
  simp (disch := omega) only [go_sem, dec_t, Bool.false_eq_true, if_false, if_true, Bool.not_false, decide_true]
  refine call_with (at_spec 1 2 m19) ?_
  rintro v m20 ⟨rfl, f20⟩
  simp (disch := omega) only [go_sem]
  refine call_with (has_spec (hset5.frame f20 (by simp) (by simp)) (1, 2)) ?_
  rintro v m21 ⟨hv, f21⟩
  rw [show decide ((1, 2) ∈ [((0 : Int), (3 : Int))]) = false from by decide] at hv
  subst hv
  simp (disch := omega) only [go_sem, Bool.not_false, if_true]
  exact ⟨rfl, (fe.trans0 f20).trans0 f21⟩
end Go.Fw
