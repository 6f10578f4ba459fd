import Derived.Test.YtnpldldflbeogaaGrComes
import Derived.Test.YtnpldldflbeogaaGrLaw
namespace Go.Fw
open Go.Proofs

set_option maxHeartbeats 4000000 in
theorem order_law_spec (m : Mem) (n : Nat) (ev : Value) (E0 : Nat → List Int) (hg : ARows m n ev E0) : MC Try.prog 5 [ev] m fun v m' => v = .bool true ∧ Fr m m' [] := by
  refine MC_start Try.func5 order_law_ok (by kernel_rfl) (by simp [Try.f5]) ?_
  simp (disch := omega) only [go_sem]
  refine call_with (small_spec m n ev E0 hg) ?_
  rintro v m1 ⟨b, k, f, E, hk, rfl, sm⟩
  simp (disch := omega) only [go_sem]
  refine call_with (parts_spec m1 k _ E (by omega) sm.grd) ?_
  rintro v m2 ⟨w, l, rfl, out, rd, f2⟩
  have ans := out.ans0
  obtain ⟨pos, hpos, hposu, hup, hscc⟩ := ans.pos
  simp (disch := omega) only [go_sem]
  refine newP_intro fun ba hba => ?_
  simp (disch := omega) only [go_sem]
  refine loopQ_intro (fun g Ev m' => ∃ i, i ≤ k ∧ g = k - i ∧ Ev = [(3, .slice (some ⟨b, 0, none⟩) k k), (4, w), (5, .int .i64 0), (6, .slice (some ⟨ba, 0, none⟩) k k), (7, .int .i64 (i : Nat))] ∧
    m' = m2.set ba (.cells (ri k fun x => if x < i then -1 else 0).toArray 3)) k rfl ⟨0, by omega, by omega, rfl, rfl⟩ ?_
  rintro g Ev m3 ⟨i, hi, rfl, rfl, rfl⟩
  simp (disch := omega) only [go_sem]
  refine condB_dec (fun h => ?_) (fun h => ?_)
  · simp (disch := omega) only [go_sem]
    refine handN_intro (k - (i + 1)) (by omega) ⟨i + 1, by omega, rfl, rfl, ?_⟩
    congr 4
    funext x
    by_cases e : x = i
    · subst e; rw [Up_self]; simp
    · rw [Up_ne _ e]
      by_cases h2 : x < i
      · rw [if_pos h2, if_pos (by omega)]
      · rw [if_neg h2, if_neg (by omega)]
  have hik : i = k := by omega
  subst hik
  have f3 : Fr m2 (m2.set ba (.cells (ri i fun x => if x < i then -1 else 0).toArray 3)) [] := Fr.new _ hba
  simp (disch := omega) only [go_sem]
  generalize hm4 : Mem.set m2 ba _ = m4
  have hba4 : m4 ba = some (.cells (ri i fun x => if x < i then -1 else 0).toArray 3 (0, 0)) := by rw [← hm4]; exact set_self _ _
  have hne4 : ∀ y, y ≠ ba → m4 y = m2 y := fun y hy => by rw [← hm4]; exact set_ne _ _ _ hy
  clear hm4
  have hllen := out.len
  obtain ⟨wa, wc, L, rfl, hL, hLr, hLv⟩ := rd.rd
  refine loopQ_intro (fun g Ev m' => ∃ p A, p ≤ l.length ∧ g = l.length - p ∧ Ev = [(3, .slice (some ⟨b, 0, none⟩) i i), (4, .slice wa l.length wc), (5, .int .i64 0), (6, .slice (some ⟨ba, 0, none⟩) i i), (8, .int .i64 (p : Nat))] ∧
    m' ba = some (.cells (ri i A).toArray 3 (0, 0)) ∧ (∀ y, y ≠ ba → m' y = m2 y) ∧ ∀ x, x < i → A x = if pos x < p then (pos x : Int) else -1) l.length rfl ⟨0, _, by omega, by omega, rfl, hba4, hne4, fun x hx => ?_⟩ ?_
  · rw [if_pos hx, if_neg (by omega)]
  clear hba4 hne4 f3 m4
  rintro g Ev m4 ⟨p, A, hp, rfl, rfl, hb4, hy4, hA⟩
  have fr4 : Fr m2 m4 [] := fun y hy _ => hy4 y (fun e => by subst e; exact hy hba)
  simp (disch := omega) only [go_sem]
  refine condB_dec (fun hpl => ?_) (fun hpl => ?_)
  · have hpl' : p < l.length := by omega
    obtain ⟨hplt, hpw, hplen⟩ := ans.lt hpl'
    obtain ⟨xa, xc, eL, hxr⟩ := hLv p l[p] (List.getElem?_eq_getElem hpl')
    obtain ⟨b1, o1, rfl, hc1⟩ := hLr.at (i := p) (by omega)
    rw [List.getElem?_eq_getElem (by omega), Option.some.injEq] at eL
    rw [eL] at hc1
    simp (disch := omega) only [go_sem]
    refine loopQ_intro (fun g Ev m' => ∃ j A, j ≤ l[p].length ∧ g = l[p].length - j ∧ Ev = [(3, .slice (some ⟨b, 0, none⟩) i i), (4, .slice (some ⟨b1, o1, none⟩) l.length wc), (5, .int .i64 0), (6, .slice (some ⟨ba, 0, none⟩) i i), (8, .int .i64 (p : Nat)), (9, .int .i64 (j : Nat))] ∧
      m' ba = some (.cells (ri i A).toArray 3 (0, 0)) ∧ (∀ y, y ≠ ba → m' y = m2 y) ∧ ∀ x, x < i → A x = if pos x < p ∨ (pos x = p ∧ x ∈ l[p].take j) then (pos x : Int) else -1) l[p].length rfl ⟨0, A, by omega, by omega, rfl, hb4, hy4, fun x hx => ?_⟩ ?_
    · rw [hA x hx]; simp
    clear hb4 hy4 hA fr4 A m4
    rintro g Ev m4 ⟨j, A, hj, rfl, rfl, hb4, hy4, hA⟩
    have fr4 : Fr m2 m4 [] := fun y hy _ => hy4 y (fun e => by subst e; exact hy hba)
    have hc14 := fr4.cellAt hc1 (by simp)
    simp (disch := omega) only [go_sem, hc14]
    refine condB_dec (fun hjl => ?_) (fun hjl => ?_)
    · have hjl' : j < l[p].length := by omega
      obtain ⟨b2, o2, rfl, hc2⟩ := (hxr.frame fr4).at (i := j) (by simp [nats_len]; omega)
      obtain ⟨x, hx⟩ : ∃ x, l[p][j] = x := ⟨_, rfl⟩
      have hxm : x ∈ l[p] := by rw [← hx]; exact List.getElem_mem _
      have hxi := hplt x hxm
      have hxp := hposu p hpl' x hxm
      obtain ⟨hnt, hsm⟩ := pw_notin hpw hjl'
      rw [hx] at hnt hsm
      simp only [nats, List.getElem_map, hx] at hc2
      have hAx : A x = -1 := by rw [hA x hxi, if_neg]; rintro (h1 | ⟨_, h1⟩); · omega
                                exact hnt h1
      have next : ∀ (B : Nat → Int), B = Up A x (p : Int) → ∀ y, y < i → B y = if pos y < p ∨ (pos y = p ∧ y ∈ l[p].take (j + 1)) then (pos y : Int) else -1 := by
        intro B hB y hy
        rw [hB, List.take_succ_eq_append_getElem hjl', hx]
        by_cases e : y = x
        · subst e
          rw [Up_self, hxp, if_pos (.inr ⟨rfl, by simp⟩)]
        · rw [Up_ne _ e, hA y hy]
          simp [e]
      have tail : ∀ (m' : Mem), m' = m4.set ba (.cells (ri i (Up A x (p : Int))).toArray 3) → (m' ba = some (.cells (ri i (Up A x (p : Int))).toArray 3 (0, 0)) ∧ (∀ y, y ≠ ba → m' y = m2 y)) := by
        rintro m' rfl
        exact ⟨set_self _ _, fun y hy => by rw [set_ne _ _ _ hy]; exact hy4 y hy⟩
      by_cases hj0 : 0 < j
      · have hsm1 := hsm (j - 1) (by omega)
        obtain ⟨b3, o3, e3, hc3⟩ := (hxr.frame fr4).at (i := j - 1) (by simp [nats_len]; omega)
        cases e3
        obtain ⟨z, hz⟩ : ∃ z, l[p][j - 1] = z := ⟨_, rfl⟩
        rw [hz] at hsm1
        simp only [nats, List.getElem_map, hz] at hc3
        have hjt : ((j : Int) - 1).toNat = j - 1 := by omega
        simp (disch := omega) only [go_sem, hc14, hc2, hc3, hjt, hb4, hAx, dec_t, dec_f, if_true, if_false, Bool.false_eq_true]
        exact handN_intro (l[p].length - (j + 1)) (by omega) ⟨j + 1, _, by omega, rfl, rfl, (tail _ rfl).1, (tail _ rfl).2, next _ rfl⟩
      · simp (disch := omega) only [go_sem, hc14, hc2, hb4, hAx, dec_t, dec_f, if_true, if_false, Bool.false_eq_true, undef]
        exact handN_intro (l[p].length - (j + 1)) (by omega) ⟨j + 1, _, by omega, rfl, rfl, (tail _ rfl).1, (tail _ rfl).2, next _ rfl⟩
    · simp (disch := omega) only [go_sem]
      refine handN_intro (l.length - (p + 1)) (by omega) ⟨p + 1, A, by omega, rfl, rfl, hb4, hy4, fun x hx => ?_⟩
      rw [hA x hx]
      obtain ⟨h5, h6⟩ := hpos x hx
      by_cases e : pos x < p
      · rw [if_pos (.inl e), if_pos (by omega)]
      · by_cases e' : pos x = p
        · have hje : j = l[p].length := by omega
          rw [if_pos (.inr ⟨e', by subst hje; rw [List.take_length]; simp only [e'] at h6; exact h6⟩), if_pos (by omega)]
        · rw [if_neg (by rintro (h7 | h7); · exact e h7
                         exact e' h7.1), if_neg (by omega)]
  · -- all have their places
    have hA' : ∀ x, x < i → A x = (pos x : Int) := fun x hx => by
      obtain ⟨h5, _⟩ := hpos x hx
      rw [hA x hx, if_pos (by omega)]
    clear hA
    have sm4 : GRd m4 i (.slice (some ⟨b, 0, none⟩) i i) E := (sm.grd.frame f2).frame fr4
    have fr0 : Fr m m4 [] := (sm.fr.trans0 f2).trans0 fr4
    simp (disch := omega) only [go_sem]
    refine loopQ_intro (fun g Ev m' => ∃ u, u ≤ i ∧ g = i - u ∧ Ev = [(3, .slice (some ⟨b, 0, none⟩) i i), (5, .int .i64 0), (6, .slice (some ⟨ba, 0, none⟩) i i), (11, .int .i64 (u : Nat))] ∧ Fr m4 m' []) i rfl ⟨0, by omega, by omega, rfl, Fr.refl _ _⟩ ?_
    rintro g Ev m5 ⟨u, hu, rfl, rfl, f5⟩
    have hb5 := f5.get0 hb4
    simp (disch := omega) only [go_sem]
    refine condB_dec (fun hui => ?_) (fun hui => ?_)
    · have hui' : u < i := by omega
      have hAu := hA' u hui'
      obtain ⟨_, hEl, ra, rc, hf, hrr⟩ : ∃ _ : True, (E u).length ≤ 30 ∧ ∃ ra rc, f u = .slice ra (E u).length rc ∧ Rd1 m ra (ints (E u)) := by
        obtain ⟨a, c, e, _, h3, hr⟩ := sm.row u hui'
        exact ⟨trivial, h3, a, c, e, hr⟩
      have hu5 : cellAt (m5 b) u = some (.slice ra (E u).length rc) := by
        rw [f5.get0 (fr4.get0 (f2.get0 sm.hrow)), cellAt_cells, List.getElem?_toArray, rv_get _ _ _ hui', hf]
      simp (disch := omega) only [go_sem, hb5, hAu, dec_f]
      refine loopQ_intro (fun g Ev m' => ∃ j, j ≤ (E u).length ∧ g = (E u).length - j ∧ Ev = [(3, .slice (some ⟨b, 0, none⟩) i i), (5, .int .i64 0), (6, .slice (some ⟨ba, 0, none⟩) i i), (11, .int .i64 (u : Nat)), (12, .int .i64 (j : Nat))] ∧ Fr m4 m' []) (E u).length rfl ⟨0, by omega, by omega, rfl, f5⟩ ?_
      clear hu5 hb5 f5 m5
      rintro g Ev m5 ⟨j, hj, rfl, rfl, f5⟩
      have hb5 := f5.get0 hb4
      have hu5 : cellAt (m5 b) u = some (.slice ra (E u).length rc) := by
        rw [f5.get0 (fr4.get0 (f2.get0 sm.hrow)), cellAt_cells, List.getElem?_toArray, rv_get _ _ _ hui', hf]
      simp (disch := omega) only [go_sem, hu5]
      refine condB_dec (fun hjl => ?_) (fun hjl => ?_)
      · obtain ⟨b2, o2, rfl, hc2⟩ := ((hrr.frame fr0).frame f5).at (i := j) (by simp [ints]; omega)
        obtain ⟨y, hy⟩ : ∃ y, (E u)[j]'(by omega) = y := ⟨_, rfl⟩
        simp only [ints, List.getElem_map, hy] at hc2
        by_cases hin : 0 ≤ y ∧ y < i
        · obtain ⟨z, rfl⟩ := Int.eq_ofNat_of_zero_le hin.1
          have hzi : z < i := by omega
          have hadj : Adj i E u z := ⟨hui', hzi, by rw [← hy]; exact List.getElem_mem _⟩
          have hle := hup u z hadj
          have hAz := hA' z hzi
          simp (disch := omega) only [go_sem, hu5, hc2, hb5, hAu, hAz, dec_f, undef, if_false, Bool.false_eq_true]
          refine call_with (comes_spec m5 i _ E (by omega) (sm4.frame f5) z u hzi hui') ?_
          rintro v m6 ⟨⟨q, rfl, hq⟩, f6⟩
          have hb6 := f6.get0 hb5
          have hqe : decide ((pos z : Int) = (pos u : Int)) = q := by
            have h1 : Scc i E z u ↔ q = true := ⟨fun h => hq.2 h.1, fun h => ⟨hq.1 h, .one hadj⟩⟩
            have h2 := hscc z u hzi hui'
            by_cases e : pos z = pos u
            · rw [h1.1 (h2.1 e)]; exact decide_eq_true (by omega)
            · cases hqq : q with
              | true => exact absurd (h2.2 (h1.2 hqq)) e
              | false => exact decide_eq_false (by omega)
          have hqe2 : (decide ((pos z : Int) = (pos u : Int)) != q) = false := by rw [hqe]; simp
          simp (disch := omega) only [go_sem, hb6, hAu, hAz, hqe2, dec_f, undef, if_false, Bool.false_eq_true]
          exact handN_intro ((E u).length - (j + 1)) (by omega) ⟨j + 1, by omega, rfl, rfl, f5.trans0 f6⟩
        · by_cases hy0 : y < 0
          · simp (disch := omega) only [go_sem, hu5, hc2, dec_t, undef, if_true]
            exact handN_intro ((E u).length - (j + 1)) (by omega) ⟨j + 1, by omega, rfl, rfl, f5⟩
          · simp (disch := omega) only [go_sem, hu5, hc2, dec_t, dec_f, undef, if_true, if_false, Bool.false_eq_true]
            exact handN_intro ((E u).length - (j + 1)) (by omega) ⟨j + 1, by omega, rfl, rfl, f5⟩
      · simp (disch := omega) only [go_sem]
        exact handN_intro (i - (u + 1)) (by omega) ⟨u + 1, by omega, rfl, rfl, f5⟩
    · simp (disch := omega) only [go_sem, decide_true]
      refine call_with (runs_spec _) ?_
      rintro r m6 ⟨rfl, f6⟩
      simp (disch := omega) only [go_sem, decide_true, if_true]
      exact post_intro ⟨rfl, (fr0.trans0 f5).trans0 f6⟩
end Go.Fw
