import Derived.Test.YtnpldldflbeogaaGrRoomy
namespace Go.Fw
open Go.Proofs

/-- the roomy rows, and what is handed in -/
structure Tl (m1 m' : Mem) (i : Nat) (fv gv : Value) (E : Nat → List Int) (B : Nat → Nat) : Prop where
  own : ∃ xs ys, Own m' 26 1 fv i xs ∧ Own m' 26 1 gv i ys ∧ ∀ u, u < i → xs[u]? = some (.slice (some ⟨B u, 0, none⟩) ((E u).length + 80) ((E u).length + 80)) ∧ ys[u]? = some (.slice (some ⟨B u, 0, none⟩) (E u).length ((E u).length + 80))
  row : ∀ u, u < i → m' (B u) = some (.cells (ri ((E u).length + 80) (rg (E u) (-7))).toArray 3 (0, 0)) ∧ B u ∉ blkOf fv ∧ B u ∉ blkOf gv
  dis : ∀ b ∈ blkOf fv, b ∉ blkOf gv
  freshf : ∀ b ∈ blkOf fv, m1 b = none
  freshg : ∀ b ∈ blkOf gv, m1 b = none
  fr : Fr m1 m' []

theorem none_back {m m' : Mem} {S : List Nat} (f : Fr m m' S) {x : Nat} (hx : m' x = none) (hS : x ∉ S) : m x = none := by
  cases h : m x with
  | none => rfl
  | some o => rw [f.get h hS] at hx; cases hx

/-- both lists have got their rows -/
theorem Tl.step {m1 m2 mA mB mC mD : Mem} {i : Nat} {fv gv fw gw : Value} {E : Nat → List Int} {B : Nat → Nat} (t : Tl m1 m2 i fv gv E B) {b : Nat} (hb : m1 b = none) (hb2 : m2 b = some (.cells (ri ((E i).length + 80) (rg (E i) (-7))).toArray 3 (0, 0)))
    (hbf : b ∉ blkOf fv) (hbg : b ∉ blkOf gv)
    (fA : Fr m2 mA []) (hf : ∀ xs, Own m2 26 1 fv i xs → Own mB 26 1 fw (i + 1) (xs ++ [.slice (some ⟨b, 0, none⟩) ((E i).length + 80) ((E i).length + 80)])) (fB : Fr mA mB (blkOf fv)) (kf : ∀ x ∈ blkOf fw, x ∈ blkOf fv ∨ mA x = none)
    (fC : Fr mB mC []) (hg : ∀ ys, Own m2 26 1 gv i ys → Own mD 26 1 gw (i + 1) (ys ++ [.slice (some ⟨b, 0, none⟩) (E i).length ((E i).length + 80)])) (fD : Fr mC mD (blkOf gv)) (kg : ∀ x ∈ blkOf gw, x ∈ blkOf gv ∨ mC x = none) :
    Tl m1 mD (i + 1) fw gw E (Up B i b) := by
  obtain ⟨xs, ys, ox, oy, hxy⟩ := t.own
  have hxl : xs.length = i := by have := ox.1; omega
  have hyl : ys.length = i := by have := oy.1; omega
  have f2C : Fr m2 mC (blkOf fv) := ((fA.sub (by simp)).transS fB).trans0 fC
  have f2D : Fr m2 mD (blkOf fv ++ blkOf gv) := (f2C.sub (by intro x h; simp [h])).trans fD (fun x h _ => by simp [h])
  have thf : ∀ x ∈ blkOf fv, m2 x ≠ none := ox.there
  have thg : ∀ x ∈ blkOf gv, m2 x ≠ none := oy.there
  have kf' : ∀ x ∈ blkOf fw, x ∈ blkOf fv ∨ m2 x = none := fun x hx => (kf x hx).imp (fun h => h) fun h => none_back fA h (by simp)
  have keepC : ∀ x, m2 x ≠ none → x ∉ blkOf fv → mC x ≠ none := fun x h h1 => f2C.some h h1
  have h1' : ∀ x, m1 x ≠ none → m2 x ≠ none := fun x h => t.fr.some h (by simp)
  have owfB := hf xs ox
  have owgD := hg ys oy
  have hBB : ∀ u, u < i + 1 → m2 (Up B i b u) = some (.cells (ri ((E u).length + 80) (rg (E u) (-7))).toArray 3 (0, 0)) ∧ Up B i b u ∉ blkOf fv ∧ Up B i b u ∉ blkOf gv := fun u hu => by
    by_cases e : u = i
    · subst e; rw [Up_self]; exact ⟨hb2, hbf, hbg⟩
    · rw [Up_ne _ e]; exact t.row u (by omega)
  have disw : ∀ x ∈ blkOf fw, x ∉ blkOf gv := fun x hx hxg => by
    rcases kf' x hx with h | h
    · exact t.dis x h hxg
    · exact thg x hxg h
  refine ⟨⟨_, _, (owfB.frame0 fC).frame fD disw, owgD, fun u hu => ?_⟩, fun u hu => ?_, fun x hx hxg => ?_, fun x hx => ?_, fun x hx => ?_, ?_⟩
  · by_cases e : u = i
    · subst e
      rw [Up_self, List.getElem?_append_right (by omega), List.getElem?_append_right (by omega), hxl, hyl]
      simp
    · rw [Up_ne _ e, List.getElem?_append_left (by omega), List.getElem?_append_left (by omega)]
      exact hxy u (by omega)
  · obtain ⟨h1, h2, h3⟩ := hBB u hu
    have hne : m2 (Up B i b u) ≠ none := by rw [h1]; exact Option.some_ne_none _
    refine ⟨f2D.get h1 (by simp [h2, h3]), fun h => ?_, fun h => ?_⟩
    · rcases kf' _ h with h | h
      · exact h2 h
      · exact hne h
    · rcases kg _ h with h | h
      · exact h3 h
      · exact keepC _ hne h2 h
  · rcases kg x hxg with h | h
    · exact disw x hx h
    · exact fC.some (owfB.there x hx) (by simp) h
  · rcases kf' x hx with h | h
    · exact t.freshf x h
    · exact none_back t.fr h (by simp)
  · rcases kg x hx with h | h
    · exact t.freshg x h
    · cases h' : m1 x with
      | none => rfl
      | some o =>
        refine absurd h (keepC x (h1' x (by rw [h']; exact Option.some_ne_none _)) fun hxf => ?_)
        rw [t.freshf x hxf] at h'; cases h'
  · refine t.fr.trans f2D fun x hx hx1 => ?_
    rcases List.mem_append.1 hx with h | h
    · exact (hx1 (t.freshf x h)).elim
    · exact (hx1 (t.freshg x h)).elim

set_option maxHeartbeats 8000000 in
theorem tells_spec (m : Mem) (n : Nat) (ev : Value) (E0 : Nat → List Int) (hg : ARows m n ev E0) : MC Try.prog 4 [ev] m fun v m' => v = .bool true ∧ Fr m m' [] := by
  refine MC_start Try.func4 tells_ok (by kernel_rfl) (by simp [Try.f4]) ?_
  simp (disch := omega) only [go_sem]
  refine call_with (small_spec m n ev E0 hg) ?_
  rintro v m1 ⟨b, k, f, E, hk, rfl, sm⟩
  simp (disch := omega) only [go_sem]
  refine loopQ_intro (fun g Ev m' => ∃ i fv gv B, i ≤ k ∧ g = k - i ∧ Ev = [(3, .slice (some ⟨b, 0, none⟩) k k), (4, fv), (5, gv), (6, .int .i64 (i : Nat))] ∧ Tl m1 m' i fv gv E B) k rfl
    ⟨0, _, _, fun _ => 0, by omega, by omega, rfl, ⟨[], [], Own.nil _ _ _, Own.nil _ _ _, by omega⟩, by omega, by intro b hb; simp [blkOf, only, Env.get] at hb, by intro b hb; simp [blkOf, only, Env.get] at hb, by intro b hb; simp [blkOf, only, Env.get] at hb, Fr.refl _ _⟩ ?_
  rintro g Ev m2 ⟨i, fv, gv, B, hi, rfl, rfl, tl⟩
  simp (disch := omega) only [go_sem]
  refine condB_dec (fun hik => ?_) (fun hik => ?_)
  · have hik' : i < k := by omega
    obtain ⟨ra, rc, hf, hrc, hr30, hrr⟩ := sm.row i hik'
    have hu2 : cellAt (m2 b) i = some (.slice ra (E i).length rc) := by
      rw [tl.fr.get0 sm.hrow, cellAt_cells, List.getElem?_toArray, rv_get _ _ _ hik', hf]
    have hrr2 := (hrr.frame sm.fr).frame tl.fr
    simp (disch := omega) only [go_sem, hu2]
    refine call_with (roomy_spec m2 ra (E i) rc (-7) (by omega) hrr2) ?_
    rintro v m3 ⟨bf, rfl, hbf, hm3⟩
    have f23 : Fr m2 m3 [] := by rw [hm3]; exact Fr.new [] hbf
    have hbf3 : m3 bf = some (.cells (ri ((E i).length + 80) (rg (E i) (-7))).toArray 3 (0, 0)) := by rw [hm3]; exact set_self _ _
    clear hm3
    obtain ⟨xs, ys, ox, oy, hxy⟩ := tl.own
    have t3 : Tl m1 m3 i fv gv E B := ⟨⟨xs, ys, ox.frame0 f23, oy.frame0 f23, hxy⟩, fun u hu => ⟨f23.get0 (tl.row u hu).1, (tl.row u hu).2⟩, tl.dis, tl.freshf, tl.freshg, tl.fr.trans0 f23⟩
    have hbff : bf ∉ blkOf fv := fun h => ox.there _ h hbf
    have hbfg : bf ∉ blkOf gv := fun h => oy.there _ h hbf
    have hb1 : m1 bf = none := none_back tl.fr hbf (by simp)
    have hu3 := f23.cellAt hu2 (by simp)
    clear hbf hu2 f23 hrr2 ox oy hxy tl xs ys
    obtain ⟨xs, ys, ox, oy, hxy⟩ := t3.own
    have hb3 : m3 b ≠ none := by intro h; rw [h] at hu3; cases hu3
    have hbnf : b ∉ blkOf fv := fun h => by have := t3.freshf b h; rw [sm.hrow] at this; cases this
    simp (disch := omega) only [go_sem, hu3]
    have h24 : i < 24 := by omega
    refine both_intro ?_ ?_
    · simp (disch := omega) only [go_sem]
      refine newP_intro fun b2 hp => ?_
      have hbp : b ≠ b2 := fun e => by rw [← e] at hp; exact hb3 hp
      simp (disch := omega) only [go_sem, hu3]
      refine both_intro ?_ ?_
      · simp (disch := omega) only [go_sem]
        generalize hm4 : Mem.set m3 b2 _ = m4
        have fA : Fr m3 m4 [] := by rw [← hm4]; exact Fr.new [] hp
        have hc2 : m4 b2 = some (.cells [Value.slice (some ⟨bf, 0, none⟩) ((E i).length + 80) ((E i).length + 80)].toArray 26 (0, 0)) := by rw [← hm4]; exact set_self _ _
        clear hm4
        have hu4 := fA.cellAt hu3 (by simp)
        refine app_own (n := i) (k := 1) (c := 1) (ox.frame0 fA) rfl (news := [Value.slice (some ⟨bf, 0, none⟩) ((E i).length + 80) ((E i).length + 80)]) ?_ rfl (by simp [Value.oneCell']) rfl (by omega) (by omega) ?_
        · simp (disch := omega) only [go_sem, ldS, hc2]
        intro w5 m5 ow5 f5 hbk5
        have hu5 := f5.cellAt hu4 hbnf
        simp (disch := omega) only [go_sem, hu5]
        refine newP_intro fun b12 hq => ?_
        simp (disch := omega) only [go_sem]
        generalize hm6 : Mem.set m5 b12 _ = m6
        have fC : Fr m5 m6 [] := by rw [← hm6]; exact Fr.new [] hq
        have hc12 : m6 b12 = some (.cells [Value.slice (some ⟨bf, 0, none⟩) (E i).length ((E i).length + 80)].toArray 26 (0, 0)) := by rw [← hm6]; exact set_self _ _
        clear hm6
        refine app_own (n := i) (k := 1) (c := 1) (((oy.frame0 fA).frame f5 (fun x hx hxf => t3.dis x hxf hx)).frame0 fC) rfl (news := [Value.slice (some ⟨bf, 0, none⟩) (E i).length ((E i).length + 80)]) ?_ rfl (by simp [Value.oneCell']) rfl (by omega) (by omega) ?_
        · simp (disch := omega) only [go_sem, ldS, hc12]
        intro w7 m7 ow7 f7 hbk7
        simp (disch := omega) only [go_sem]
        exact handN_intro (k - (i + 1)) (by omega) ⟨i + 1, _, _, _, by omega, rfl, rfl, t3.step hb1 hbf3 hbff hbfg fA (fun xs' o => (o.uniq ox) ▸ ow5) f5 hbk5 fC (fun ys' o => (o.uniq oy) ▸ ow7) f7 hbk7⟩
      · simp (disch := omega) only [go_sem]
        refine newP_intro fun b12 hq => ?_
        obtain ⟨hqp, hq3⟩ := new_ne hq
        have hbq : b ≠ b12 := fun e => by rw [← e] at hq3; exact hb3 hq3
        simp (disch := omega) only [go_sem, hu3]
        generalize hm4 : Mem.set (Mem.set m3 b2 _) b12 _ = m4
        have fA : Fr m3 m4 [] := by rw [← hm4]; exact (Fr.new [] hp).trans0 (Fr.new [] hq)
        have hc2 : m4 b2 = some (.cells [Value.slice (some ⟨bf, 0, none⟩) ((E i).length + 80) ((E i).length + 80)].toArray 26 (0, 0)) := by
          rw [← hm4]; simp (disch := omega) only [go_sem]
        have hc12 : m4 b12 = some (.cells [Value.slice (some ⟨bf, 0, none⟩) (E i).length ((E i).length + 80)].toArray 26 (0, 0)) := by
          rw [← hm4]; simp (disch := omega) only [go_sem]
        have hn12 : b12 ∉ blkOf fv := fun h => ox.there b12 h (by first | exact hp | exact hq3)
        clear hm4
        have hu4 := fA.cellAt hu3 (by simp)
        refine app_own (n := i) (k := 1) (c := 1) (ox.frame0 fA) rfl (news := [Value.slice (some ⟨bf, 0, none⟩) ((E i).length + 80) ((E i).length + 80)]) ?_ rfl (by simp [Value.oneCell']) rfl (by omega) (by omega) ?_
        · simp (disch := omega) only [go_sem, ldS, hc2]
        intro w5 m5 ow5 f5 hbk5
        have hu5 := f5.cellAt hu4 hbnf
        have hc12' := f5.get hc12 hn12
        have fC := Fr.refl m5 []
        simp (disch := omega) only [go_sem, hu5]
        refine app_own (n := i) (k := 1) (c := 1) ((oy.frame0 fA).frame f5 (fun x hx hxf => t3.dis x hxf hx)) rfl (news := [Value.slice (some ⟨bf, 0, none⟩) (E i).length ((E i).length + 80)]) ?_ rfl (by simp [Value.oneCell']) rfl (by omega) (by omega) ?_
        · simp (disch := omega) only [go_sem, ldS, hc12']
        intro w7 m7 ow7 f7 hbk7
        simp (disch := omega) only [go_sem]
        exact handN_intro (k - (i + 1)) (by omega) ⟨i + 1, _, _, _, by omega, rfl, rfl, t3.step hb1 hbf3 hbff hbfg fA (fun xs' o => (o.uniq ox) ▸ ow5) f5 hbk5 fC (fun ys' o => (o.uniq oy) ▸ ow7) f7 hbk7⟩
    · simp (disch := omega) only [go_sem]
      refine newP_intro fun b12 hp => ?_
      have hbp : b ≠ b12 := fun e => by rw [← e] at hp; exact hb3 hp
      simp (disch := omega) only [go_sem, hu3]
      refine newP_intro fun b2 hq => ?_
      obtain ⟨hqp, hq3⟩ := new_ne hq
      have hbq : b ≠ b2 := fun e => by rw [← e] at hq3; exact hb3 hq3
      simp (disch := omega) only [go_sem, hu3]
      generalize hm4 : Mem.set (Mem.set m3 b12 _) b2 _ = m4
      have fA : Fr m3 m4 [] := by rw [← hm4]; exact (Fr.new [] hp).trans0 (Fr.new [] hq)
      have hc2 : m4 b2 = some (.cells [Value.slice (some ⟨bf, 0, none⟩) ((E i).length + 80) ((E i).length + 80)].toArray 26 (0, 0)) := by
        rw [← hm4]; simp (disch := omega) only [go_sem]
      have hc12 : m4 b12 = some (.cells [Value.slice (some ⟨bf, 0, none⟩) (E i).length ((E i).length + 80)].toArray 26 (0, 0)) := by
        rw [← hm4]; simp (disch := omega) only [go_sem]
      have hn12 : b12 ∉ blkOf fv := fun h => ox.there b12 h (by first | exact hp | exact hq3)
      clear hm4
      have hu4 := fA.cellAt hu3 (by simp)
      refine app_own (n := i) (k := 1) (c := 1) (ox.frame0 fA) rfl (news := [Value.slice (some ⟨bf, 0, none⟩) ((E i).length + 80) ((E i).length + 80)]) ?_ rfl (by simp [Value.oneCell']) rfl (by omega) (by omega) ?_
      · simp (disch := omega) only [go_sem, ldS, hc2]
      intro w5 m5 ow5 f5 hbk5
      have hu5 := f5.cellAt hu4 hbnf
      have hc12' := f5.get hc12 hn12
      have fC := Fr.refl m5 []
      simp (disch := omega) only [go_sem, hu5]
      refine app_own (n := i) (k := 1) (c := 1) ((oy.frame0 fA).frame f5 (fun x hx hxf => t3.dis x hxf hx)) rfl (news := [Value.slice (some ⟨bf, 0, none⟩) (E i).length ((E i).length + 80)]) ?_ rfl (by simp [Value.oneCell']) rfl (by omega) (by omega) ?_
      · simp (disch := omega) only [go_sem, ldS, hc12']
      intro w7 m7 ow7 f7 hbk7
      simp (disch := omega) only [go_sem]
      exact handN_intro (k - (i + 1)) (by omega) ⟨i + 1, _, _, _, by omega, rfl, rfl, t3.step hb1 hbf3 hbff hbfg fA (fun xs' o => (o.uniq ox) ▸ ow5) f5 hbk5 fC (fun ys' o => (o.uniq oy) ▸ ow7) f7 hbk7⟩
  · have hik' : i = k := by omega
    subst hik'
    obtain ⟨xs, ys, ox, oy, hxy⟩ := tl.own
    have hyl : ys.length = i := by have := oy.1; omega
    have hxl : xs.length = i := by have := ox.1; omega
    have hg2 : GRd m2 i gv E := by
      obtain ⟨a, c, rfl, hr⟩ := oy.rd
      refine ⟨a, c, ys, rfl, hyl, hr, fun v hv => ?_⟩
      obtain ⟨_, _, _, _, h30, _⟩ := sm.row v hv
      exact ⟨by omega, _, _, (hxy v hv).2, rg_rd (tl.row v hv).1⟩
    simp (disch := omega) only [go_sem]
    refine call_with (parts_spec m2 i _ E (by omega) hg2) ?_
    rintro v m3 ⟨w, l, rfl, out, rd, f3⟩
    have f13 := tl.fr.trans0 f3
    have f03 := sm.fr.trans0 f13
    obtain ⟨fa, fc, rfl, hfr⟩ := ox.rd
    simp (disch := omega) only [go_sem]
    refine loopQ_intro (fun g Ev m' => ∃ j, j ≤ i ∧ g = i - j ∧ Ev = [(3, .slice (some ⟨b, 0, none⟩) i i), (4, .slice fa i fc), (8, w), (9, .int .i64 0), (10, .int .i64 (j : Nat))] ∧ m' = m3) i rfl ⟨0, by omega, by omega, rfl, rfl⟩ ?_
    rintro g Ev m' ⟨j, hj, rfl, rfl, rfl⟩
    simp (disch := omega) only [go_sem]
    refine condB_dec (fun hji => ?_) (fun hji => ?_)
    · have hji' : j < i := by omega
      obtain ⟨ra, rc, hf, hrc, hr30, hrr⟩ := sm.row j hji'
      have hu2 : cellAt (m' b) j = some (.slice ra (E j).length rc) := by
        rw [f13.get0 sm.hrow, cellAt_cells, List.getElem?_toArray, rv_get _ _ _ hji', hf]
      obtain ⟨bx, ox', rfl, hcx⟩ := (hfr.frame f3).at (i := j) (by omega)
      have hxj := (hxy j hji').1
      rw [List.getElem?_eq_getElem (by omega), Option.some.injEq] at hxj
      rw [hxj] at hcx
      simp (disch := omega) only [go_sem, hu2, hcx]
      refine call_with (intact_spec m' (B j) ra (E j) rc (-7) (by omega) (f3.get0 (tl.row j hji').1) (hrr.frame f03)) ?_
      rintro v m4 ⟨rfl, rfl⟩
      simp (disch := omega) only [go_sem, Bool.not_true]
      exact handN_intro (i - (j + 1)) (by omega) ⟨j + 1, by omega, rfl, rfl, rfl⟩
    · simp (disch := omega) only [go_sem, decide_true]
      refine call_with (refparts_spec m' i _ E (by omega) (sm.grd.frame f13)) ?_
      rintro w2 m4 ⟨l2, out2, rd2, f4⟩
      have := out.det out2
      subst this
      have hll := out.len
      have hlp : ∀ x ∈ l, x.length < 2 ^ 40 := fun x hx => by
        obtain ⟨p, hp, rfl⟩ := List.mem_iff_getElem.1 hx
        have := (out.ans0.lt hp).2.2
        omega
      simp (disch := omega) only [go_sem, decide_true]
      refine call_with (same2_spec _ _ l l m4 (rd.rd.frame0 f4) rd2 (by omega) (by omega) hlp hlp) ?_
      rintro v m5 ⟨rfl, rfl⟩
      simp (disch := omega) only [go_sem, decide_true, if_true]
      refine call_with (runs_spec _) ?_
      rintro r m6 ⟨rfl, f6⟩
      simp (disch := omega) only [go_sem, decide_true, if_true]
      exact post_intro ⟨rfl, (f03.trans0 f4).trans0 f6⟩
end Go.Fw
