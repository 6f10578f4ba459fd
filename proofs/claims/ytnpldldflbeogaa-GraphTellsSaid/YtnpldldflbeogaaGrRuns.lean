import Derived.Test.YtnpldldflbeogaaGrSame
import Derived.Test.YtnpldldflbeogaaGrChk
namespace Go.Fw
open Go.Proofs

theorem Rd1.lit {m : Mem} {b : Nat} {l : List Value} {t : TypeId} {fr : Nat × Nat} (h : m b = some (.cells l.toArray t fr)) : Rd1 m (some ⟨b, 0, none⟩) l :=
  .inr ⟨b, 0, rfl, fun i v hv => by rw [h, cellAt_cells, List.getElem?_toArray, Nat.zero_add]; exact hv⟩
theorem RdRows.frame0 {m m' : Mem} {v : Value} {l : List (List Nat)} (h : RdRows m v l) (f : Fr m m' []) : RdRows m' v l := by
  obtain ⟨a, c, L, h1, h2, h3, h4⟩ := h
  exact ⟨a, c, L, h1, h2, h3.frame f, fun k r hk => let ⟨a', c', h5, h6⟩ := h4 k r hk; ⟨a', c', h5, h6.frame f⟩⟩

set_option maxHeartbeats 2000000 in
theorem runs_spec (m : Mem) : MC Try.prog 3 [] m fun v m' => v = .bool true ∧ Fr m m' [] := by
  refine MC_start Try.func3 runs_ok (by kernel_rfl) (by simp [Try.f3]) ?_
  simp (disch := omega) only [go_sem]
  refine newP_intro fun b1 h1 => ?_
  simp (disch := omega) only [go_sem]
  refine newP_intro fun b2 h2 => ?_
  simp only [set_none] at h2
  simp (disch := omega) only [go_sem]
  refine newP_intro fun b3 h3 => ?_
  simp only [set_none] at h3
  simp (disch := omega) only [go_sem]
  refine newP_intro fun b4 h4 => ?_
  simp only [set_none] at h4
  simp (disch := omega) only [go_sem]
  refine newP_intro fun b5 h5 => ?_
  simp only [set_none] at h5
  simp (disch := omega) only [go_sem]
  generalize hm1 : Mem.set (Mem.set (Mem.set (Mem.set (Mem.set m b1 _) b2 _) b3 _) b4 _) b5 _ = m1
  have c1 := (congrFun hm1 b1).symm
  have c2 := (congrFun hm1 b2).symm
  have c3 := (congrFun hm1 b3).symm
  have c4 := (congrFun hm1 b4).symm
  have c5 := (congrFun hm1 b5).symm
  simp (disch := omega) only [go_sem] at c1 c2 c3 c4 c5
  have f1 : Fr m m1 [] := by
    intro y hy _
    rw [← hm1]
    simp only [Mem.set]
    repeat' split
    all_goals first
      | rfl
      | (rename_i e; subst e; exact absurd (by simp only [*]) hy)
  clear hm1
  have hg1 : GRd m1 4 (.slice (some ⟨b5, 0, none⟩) 4 4) E1 := by
    refine ⟨_, _, [.slice (some ⟨b1, 0, none⟩) 1 1, .slice (some ⟨b2, 0, none⟩) 1 1, .slice (some ⟨b3, 0, none⟩) 1 1, .slice (some ⟨b4, 0, none⟩) 1 1], rfl, rfl, Rd1.lit c5, fun v hv => ?_⟩
    rcases (by omega : v = 0 ∨ v = 1 ∨ v = 2 ∨ v = 3) with rfl | rfl | rfl | rfl
    · exact ⟨by decide, _, _, rfl, Rd1.lit c1⟩
    · exact ⟨by decide, _, _, rfl, Rd1.lit c2⟩
    · exact ⟨by decide, _, _, rfl, Rd1.lit c3⟩
    · exact ⟨by decide, _, _, rfl, Rd1.lit c4⟩
  refine call_with (parts_spec m1 4 _ E1 (by omega) hg1) ?_
  rintro r m2 ⟨w1, l1, rfl, out, rd1, f2⟩
  have := out.det out1
  subst this
  simp (disch := omega) only [go_sem]
  refine newP_intro fun b6 h6 => ?_
  have f3 : Fr m2 (m2.set b6 (.cells (rv 3 fun _ => .slice none 0 0).toArray 26)) [] := Fr.new _ h6
  have hg2 : GRd (m2.set b6 (.cells (rv 3 fun _ => .slice none 0 0).toArray 26)) 3 (.slice (some ⟨b6, 0, none⟩) 3 3) (fun _ => []) :=
    ⟨_, _, rv 3 fun _ => .slice none 0 0, rfl, rfl, Rd1.lit (set_self _ _), fun v hv => ⟨by simp, none, 0, by rw [rv_get _ _ _ hv]; rfl, .inl rfl⟩⟩
  simp (disch := omega) only [go_sem]
  refine call_with (parts_spec _ 3 _ _ (by omega) hg2) ?_
  rintro r m3 ⟨w2, l2, rfl, outb, rd2, f4⟩
  have := outb.det out2
  subst this
  simp (disch := omega) only [go_sem]
  refine newP_intro fun b7 h7 => ?_
  simp (disch := omega) only [go_sem]
  refine call_with (parts_long _ _ 513 _ (by omega)) ?_
  rintro r m4 ⟨rfl, rfl⟩
  have e1 : decide ((0 : Int) = 0) = true := rfl
  have e2 : decide ((2 : Int) = 2) = true := rfl
  generalize hm4 : Mem.set m3 b7 _ = m4
  have f5 : Fr m3 m4 [] := by rw [← hm4]; exact Fr.new _ h7
  have rda := (((rd1.rd.frame0 f3).frame0 f4).frame0 f5)
  have rdb := rd2.rd.frame0 f5
  have fr4 : Fr m m4 [] := ((((f1.trans0 f2).trans0 f3).trans0 f4).trans0 f5)
  clear hm4
  simp (disch := omega) only [go_sem, decide_true]
  refine newP_intro fun b1 h1 => ?_
  simp (disch := omega) only [go_sem]
  refine newP_intro fun b2 h2 => ?_
  simp only [set_none] at h2
  simp (disch := omega) only [go_sem]
  refine newP_intro fun b3 h3 => ?_
  simp only [set_none] at h3
  simp (disch := omega) only [go_sem]
  refine newP_intro fun b4 h4 => ?_
  simp only [set_none] at h4
  simp (disch := omega) only [go_sem]
  generalize hm5 : Mem.set (Mem.set (Mem.set (Mem.set m4 b1 _) b2 _) b3 _) b4 _ = m5
  have d1 := (congrFun hm5 b1).symm
  have d2 := (congrFun hm5 b2).symm
  have d3 := (congrFun hm5 b3).symm
  have d4 := (congrFun hm5 b4).symm
  simp (disch := omega) only [go_sem] at d1 d2 d3 d4
  have f6 : Fr m4 m5 [] := by
    intro y hy _
    rw [← hm5]
    simp only [Mem.set]
    repeat' split
    all_goals first
      | rfl
      | (rename_i e; subst e; exact absurd (by simp only [*]) hy)
  clear hm5
  have rdl : RdRows m5 (.slice (some ⟨b4, 0, none⟩) 3 3) [[1, 2], [0], [3]] := by
    refine ⟨_, _, [.slice (some ⟨b1, 0, none⟩) 2 2, .slice (some ⟨b2, 0, none⟩) 1 1, .slice (some ⟨b3, 0, none⟩) 1 1], rfl, rfl, Rd1.lit d4, fun k r hk => ?_⟩
    have hk3 : k < 3 := by have := (List.getElem?_eq_some_iff.1 hk).1; simpa using this
    rcases (by omega : k = 0 ∨ k = 1 ∨ k = 2) with rfl | rfl | rfl
    · cases hk; exact ⟨_, _, rfl, Rd1.lit d1⟩
    · cases hk; exact ⟨_, _, rfl, Rd1.lit d2⟩
    · cases hk; exact ⟨_, _, rfl, Rd1.lit d3⟩
  refine call_with (same2_spec w1 _ _ _ m5 (rda.frame0 f6) rdl (by decide) (by decide) (by decide) (by decide)) ?_
  rintro r m6 ⟨rfl, rfl⟩
  have e3 : decide ([[1, 2], [0], [3]] = ([[1, 2], [0], [3]] : List (List Nat))) = true := by decide
  simp (disch := omega) only [go_sem, decide_true]
  refine newP_intro fun b1 h1 => ?_
  simp (disch := omega) only [go_sem]
  refine newP_intro fun b2 h2 => ?_
  simp only [set_none] at h2
  simp (disch := omega) only [go_sem]
  refine newP_intro fun b3 h3 => ?_
  simp only [set_none] at h3
  simp (disch := omega) only [go_sem]
  refine newP_intro fun b4 h4 => ?_
  simp only [set_none] at h4
  simp (disch := omega) only [go_sem]
  generalize hm5 : Mem.set (Mem.set (Mem.set (Mem.set m6 b1 _) b2 _) b3 _) b4 _ = m7
  have d1 := (congrFun hm5 b1).symm
  have d2 := (congrFun hm5 b2).symm
  have d3 := (congrFun hm5 b3).symm
  have d4 := (congrFun hm5 b4).symm
  simp (disch := omega) only [go_sem] at d1 d2 d3 d4
  have f7 : Fr m6 m7 [] := by
    intro y hy _
    rw [← hm5]
    simp only [Mem.set]
    repeat' split
    all_goals first
      | rfl
      | (rename_i e; subst e; exact absurd (by simp only [*]) hy)
  clear hm5
  have rdl : RdRows m7 (.slice (some ⟨b4, 0, none⟩) 3 3) [[0], [1], [2]] := by
    refine ⟨_, _, [.slice (some ⟨b1, 0, none⟩) 1 1, .slice (some ⟨b2, 0, none⟩) 1 1, .slice (some ⟨b3, 0, none⟩) 1 1], rfl, rfl, Rd1.lit d4, fun k r hk => ?_⟩
    have hk3 : k < 3 := by have := (List.getElem?_eq_some_iff.1 hk).1; simpa using this
    rcases (by omega : k = 0 ∨ k = 1 ∨ k = 2) with rfl | rfl | rfl
    · cases hk; exact ⟨_, _, rfl, Rd1.lit d1⟩
    · cases hk; exact ⟨_, _, rfl, Rd1.lit d2⟩
    · cases hk; exact ⟨_, _, rfl, Rd1.lit d3⟩
  refine call_with (same2_spec w2 _ _ _ m7 ((rdb.frame0 f6).frame0 f7) rdl (by decide) (by decide) (by decide) (by decide)) ?_
  rintro r m8 ⟨rfl, rfl⟩
  have e4 : decide ([[0], [1], [2]] = ([[0], [1], [2]] : List (List Nat))) = true := by decide
  simp (disch := omega) only [go_sem, decide_true]
  exact post_intro ⟨rfl, (fr4.trans0 f6).trans0 f7⟩
end Go.Fw
