import Derived.Test.YtnpldldflbeogaaGrWalk
namespace Go.Fw
open Go.Proofs

theorem opn_step (f : Nat → Bool) (x : Nat) (l : List Nat) : Up (fun y => if y ∈ l then false else f y) x false = fun y => if y ∈ x :: l then false else f y := by
  funext y
  by_cases h : y = x
  · subst h; simp [Up]
  · simp [Up, h]
theorem part_step (f : Nat → Int) (k : Int) (x : Nat) (l : List Nat) : Up (fun y => if y ∈ l then k else f y) x k = fun y => if y ∈ x :: l then k else f y := by
  funext y
  by_cases h : y = x
  · subst h; simp [Up]
  · simp [Up, h]

set_option maxHeartbeats 1000000 in
theorem leave_no (m : Mem) (n : Nat) (ev : Value) (B : WB) (rv : Value) (s : TS) (v : Nat) (h : WRep m n ev B rv s) (hv : v < n) (hne : s.low v ≠ s.idx v) :
    MC Try.prog 22 [.pointer (some ⟨B.w, 0, none⟩), .int .i64 v] m fun r m' => r = .tuple #[] ∧ m' = m := by
  obtain ⟨hw, hi, hl, ho, hp, hr, ⟨d1, d2, d3, d4, d5, d6, d7, d8, d9, d10⟩, dr⟩ := h
  refine MC_start Try.func22 leave_ok (by kernel_rfl) (by simp [Try.f22]) ?_
  simp (disch := omega) only [go_sem, hw, hi, hl]
  exact post_intro ⟨rfl, rfl⟩

theorem take_len {α : Type} (l : List α) (k : Nat) (h : k < l.length) : l.take (k + 1) = l.take k ++ [l[k]] := List.take_succ_eq_append_getElem h

set_option maxHeartbeats 1000000 in
theorem leave_yes (m : Mem) (n : Nat) (ev : Value) (B : WB) (rv : Value) (s : TS) (v : Nat) (h : WRep m n ev B rv s) (hv : v < n) (heq : s.low v = s.idx v)
    (pre suf : List Nat) (hrow : s.row = pre ++ v :: suf) (hsuf : v ∉ suf) (hlt : ∀ x ∈ s.row, x < n) (hrl : s.row.length < 1000000) (hm : s.many < 1000000) :
    MC Try.prog 22 [.pointer (some ⟨B.w, 0, none⟩), .int .i64 v] m fun r m' => r = .tuple #[] ∧ ∃ rv', WRep m' n ev B rv' (s.pop v pre suf) ∧ Fr m m' (B.all rv) ∧ (∀ b ∈ blkOf rv', b ∈ blkOf rv) := by
  have h0 := h
  obtain ⟨hw, hi, hl, ho, hp, hr, ⟨d1, d2, d3, d4, d5, d6, d7, d8, d9, d10⟩, dr⟩ := h
  refine MC_start Try.func22 leave_ok (by kernel_rfl) (by simp [Try.f22]) ?_
  simp (disch := omega) only [go_sem, hw, hi, hl]
  refine loopQ_intro (fun g E m' => ∃ rv', g ≤ suf.length ∧ E = [(0, .pointer (some ⟨B.w, 0, none⟩)), (1, .int .i64 v)] ∧
    WRep m' n ev B rv' (s.popN (suf.drop g) (pre ++ v :: suf.take g)) ∧ Fr m m' (B.all rv) ∧ (∀ b ∈ blkOf rv', b ∈ blkOf rv)) suf.length rfl
    ⟨rv, Nat.le_refl _, rfl, ?_, Fr.refl _ _, fun b hb => hb⟩ ?_
  · have : s.popN (suf.drop suf.length) (pre ++ v :: suf.take suf.length) = s := by
      simp [TS.popN, ← hrow]
    rw [this]; exact h0
  rintro g E m1 ⟨rv1, hg, rfl, ⟨hw1, hi1, hl1, ho1, hp1, hr1, -, dr1⟩, f1, hb1⟩
  -- the row, its last
  have hlen : (pre ++ v :: suf.take g).length = pre.length + g + 1 := by simp [Nat.min_eq_left hg]; omega
  have hbig : pre.length + g + 1 < 1000000 := by
    have : s.row.length = pre.length + suf.length + 1 := by rw [hrow]; simp; omega
    omega
  have hr1' := hr1
  simp only [TS.popN, hlen] at hr1'
  obtain ⟨b, cap, tail, rfl, hb, hcap, hxl⟩ := hr1'.row (by omega)
  simp only [Nat.mul_one] at hcap hxl
  -- the last one
  obtain ⟨x, hx, hxn, hxv⟩ : ∃ x, (nats (pre ++ v :: suf.take g))[pre.length + g]? = some (.int .i64 (x : Nat)) ∧ x < n ∧ x = (v :: suf.take g)[g]'(by simp [Nat.min_eq_left hg]) := by
    refine ⟨_, ?_, ?_, rfl⟩
    · simp only [nats, List.getElem?_map]
      rw [List.getElem?_append_right (by omega), show pre.length + g - pre.length = g from by omega, List.getElem?_eq_getElem (by simp [Nat.min_eq_left hg])]
      rfl
    · apply hlt
      rw [hrow]
      refine List.mem_append_right _ ?_
      have := List.getElem_mem (l := v :: suf.take g) (n := g) (by simp [Nat.min_eq_left hg])
      rcases List.mem_cons.1 this with h | h
      · rw [h]; exact List.mem_cons_self ..
      · exact List.mem_cons_of_mem _ (List.mem_of_mem_take h)
  have hx2 : (nats (pre ++ v :: suf.take g) ++ tail)[pre.length + g]? = some (.int .i64 (x : Nat)) := by
    rw [List.getElem?_append_left (by rw [hxl]; omega)]; exact hx
  have dw := dr1 b (by simp [blkOf])
  simp only [TS.popN] at hw1
  simp only [TS.popN] at ho1 hp1 hi1 hl1
  simp (disch := omega) only [go_sem, hw1, hb, IntWalk.toNatUp, Nat.add_sub_cancel, hx2, ho1, hp1, Int.natCast_add, Int.natCast_one, opn_step, part_step]
  generalize hm2 : Mem.set (Mem.set (Mem.set m1 B.w _) B.o _) B.p _ = m2
  have w2 := (congrFun hm2 B.w).symm
  have i2 := (congrFun hm2 B.i).symm
  have l2 := (congrFun hm2 B.l).symm
  have o2 := (congrFun hm2 B.o).symm
  have p2 := (congrFun hm2 B.p).symm
  simp (disch := omega) only [go_sem, hi1, hl1] at w2 i2 l2 o2 p2
  have f2 : Fr m1 m2 [B.w, B.o, B.p] := by
    rw [← hm2]
    exact ((Fr.set (by simp)).transS (Fr.set (by simp))).transS (Fr.set (by simp))
  have hr2 : Own m2 3 1 (.slice (some ⟨b, 0, none⟩) (pre.length + g) cap) (pre.length + g) (nats ((pre ++ v :: suf.take g).take (pre.length + g))) := by
    have := (hr1'.shrink (k := pre.length + g) (by omega) (by omega)).frame f2 (fun b' hb' => by simp only [blkOf, List.mem_singleton] at hb'; subst hb'; simp; omega)
    simpa [nats, List.map_take] using this
  have f3 : Fr m m2 (B.all rv) := f1.transS (f2.sub fun x hx => by simp [WB.all] at *; omega)
  clear hm2
  have hgl : g - 1 < g ∨ g = 0 := by omega
  by_cases hxe : x = v
  · have hg0 : g = 0 := by
      rcases g with _ | g
      · rfl
      · exfalso
        rw [hxe] at hxv
        simp only [List.getElem_cons_succ, List.getElem_take] at hxv
        exact hsuf (hxv ▸ List.getElem_mem _)
    subst hg0
    have hxe' : (x : Int) = v := by omega
    simp (disch := omega) only [go_sem, w2]
    have f4 : Fr m2 (m2.set B.w (Obj.cells [ev, .slice (some ⟨B.i, 0, none⟩) n n, .slice (some ⟨B.l, 0, none⟩) n n, .slice (some ⟨B.o, 0, none⟩) n n, .slice (some ⟨b, 0, none⟩) pre.length cap, .slice (some ⟨B.p, 0, none⟩) n n, .int .i64 (s.many + 1), .int .i64 s.clock].toArray 40 (0, 0))) [B.w] := Fr.set (by simp)
    have e0 : (v :: suf.take 0)[0] = v := rfl
    subst hxe
    refine post_intro ⟨rfl, .slice (some ⟨b, 0, none⟩) pre.length cap, ⟨by simp (disch := omega) only [go_sem]; rfl, ?_, ?_, ?_, ?_, ?_, ⟨d1, d2, d3, d4, d5, d6, d7, d8, d9, d10⟩, dr1⟩, ?_, hb1⟩
    · exact f4.get i2 (by simp; omega)
    · exact f4.get l2 (by simp; omega)
    · exact f4.get o2 (by simp; omega)
    · exact f4.get p2 (by simp; omega)
    · have : Own m2 3 1 (.slice (some ⟨b, 0, none⟩) pre.length cap) pre.length (nats pre) := by simpa using hr2
      exact this.frame f4 (fun b' hb' => by simp only [blkOf, List.mem_singleton] at hb'; subst hb'; simp; omega)
    · exact f3.transS (f4.sub fun x hx => by simp [WB.all] at *; omega)
  · have hxe' : (x : Int) ≠ v := by omega
    simp (disch := omega) only [go_sem]
    obtain ⟨g, rfl⟩ : ∃ g', g = g' + 1 := by
      rcases g with _ | g
      · exact absurd (by simpa using hxv) hxe
      · exact ⟨g, rfl⟩
    simp only [List.getElem_cons_succ, List.getElem_take] at hxv
    have hdrop : suf.drop g = x :: suf.drop (g + 1) := by rw [List.drop_eq_getElem_cons (by omega), hxv]
    have htake : (pre ++ v :: suf.take (g + 1)).take (pre.length + (g + 1)) = pre ++ v :: suf.take g := by
      rw [List.take_append, List.take_of_length_le (by omega), show pre.length + (g + 1) - pre.length = g + 1 from by omega, List.take_succ_cons, List.take_take, Nat.min_eq_left (by omega)]
    rw [htake] at hr2
    refine handN_intro g (by omega) ⟨.slice (some ⟨b, 0, none⟩) (pre.length + (g + 1)) cap, by omega, rfl, ⟨w2, i2, l2, ?_, ?_, ?_, ⟨d1, d2, d3, d4, d5, d6, d7, d8, d9, d10⟩, dr1⟩, f3, hb1⟩
    · simp only [TS.popN, hdrop]; exact o2
    · simp only [TS.popN, hdrop]; exact p2
    · have hl3 : (pre ++ v :: suf.take g).length = pre.length + (g + 1) := by simp [Nat.min_eq_left (show g ≤ suf.length by omega)]
      simp only [TS.popN, hl3]; exact hr2
end Go.Fw
