import Derived.Test.YtnpldldflbeogaaGrRingLaw
namespace Go.Fw
open Go.Proofs

set_option maxHeartbeats 4000000 in
theorem ring_spec (m : Mem) (a b : Int) : MC Try.prog 7 [.int .i64 a, .int .i64 b] m fun v m' => v = .bool true ∧ Fr m m' [] := by
  refine MC_start Try.func7 ring_ok (by kernel_rfl) (by simp [Try.f7]) ?_
  simp (disch := omega) only [go_sem]
  refine call_with (within_spec m a 1 512 (by omega) (by omega) (by omega)) ?_
  rintro v m' ⟨⟨k, rfl, hk1, hk2⟩, rfl⟩
  simp (disch := omega) only [go_sem]
  refine newP_intro fun be hbe => ?_
  simp (disch := omega) only [go_sem]
  refine loopQ_intro (fun g Ev m1 => ∃ (i : Nat) (f : Nat → Value) (E : Nat → List Int), i ≤ k ∧ g = k - i ∧ Ev = [(1, .int .i64 b), (5, .int .i64 (k : Nat)), (6, .slice (some ⟨be, 0, none⟩) k k), (7, .int .i64 (i : Nat))] ∧
    GB m' m1 be k f E ∧ E = fun v => if i ≤ v then [] else ERing k v) k rfl ⟨0, _, _, by omega, by omega, rfl, GB.new hbe (Fr.refl _ _), ?_⟩ ?_
  · funext v
    rw [if_pos (by omega)]
  rintro g Ev m1 ⟨i, f, E, hik, rfl, rfl, hB, hE⟩
  simp (disch := omega) only [go_sem]
  refine condB_dec (fun h => ?_) (fun h => ?_)
  · have hik' : i < k := by omega
    have hb1 := hB.hb
    have htm := ring_tmod hik'
    simp (disch := omega) only [go_sem, htm]
    refine newP_intro fun bn hbn => ?_
    have hne : be ≠ bn := fun e => by rw [← e, hb1] at hbn; cases hbn
    simp (disch := omega) only [go_sem, hb1]
    refine handN_intro (k - (i + 1)) (by omega) ⟨i + 1, _, _, by omega, rfl, rfl, hB.put hik' hbn, ?_⟩
    funext v
    rw [hE]
    dsimp only
    by_cases e : v = i
    · subst e; rw [if_pos rfl, if_neg (by omega)]; rfl
    · rw [if_neg e]
      by_cases h0 : i ≤ v
      · rw [if_pos h0, if_pos (by omega)]
      · rw [if_neg h0, if_neg (by omega)]
  · have hie : k = i := by omega
    subst hie
    have hg : GRd m1 k (.slice (some ⟨be, 0, none⟩) k k) (ERing k) := (hB.grd (fun v _ => by rw [hE]; dsimp only; split <;> simp [ERing])).congr (fun v hv => by
      rw [hE]
      dsimp only
      rw [if_neg (by omega)])
    simp (disch := omega) only [go_sem]
    refine call_with (parts_spec m1 k _ _ (by omega) hg) ?_
    rintro r m2 ⟨w1, l1, rfl, out1, rd1, f2⟩
    have hl1 := out1.det (ring_out (by omega))
    subst hl1
    simp (disch := omega) only [go_sem]
    refine call_with (within_spec m2 b 0 (k - 1) (by omega) (by omega) (by omega)) ?_
    rintro v m3 ⟨⟨c, rfl, hc1, hc2⟩, rfl⟩
    have hB2 := hB.frame f2
    have hb2 := hB2.hb
    simp (disch := omega) only [go_sem, hb2]
    have hB3 := hB2.nil (i := c) (by omega)
    have hck : c < k := by omega
    have hg3 := (hB3.grd (fun v _ => by rw [hE]; dsimp only; split; · simp
                                        · split <;> simp [ERing])).congr (E' := ECut k c) (fun v hv => by
      rw [hE]
      dsimp only [ECut]
      by_cases e : v = c
      · rw [if_pos e, if_pos e]
      · rw [if_neg e, if_neg e, if_neg (by omega)]; rfl)
    generalize hm4 : Mem.set m3 be _ = m4
    rw [hm4] at hB3 hg3
    refine call_with (parts_spec m4 k _ _ (by omega) hg3) ?_
    rintro r m5 ⟨w2, l2, rfl, outb, rd2, f5⟩
    have hl2 := outb.det (cut_out hck)
    have hlen2 : l2.length = k := by rw [hl2]; simp
    have hat2 : ∀ i (hi : i < l2.length), l2[i] = [at_ k c i] := by subst hl2; intro i hi; simp
    have f4 : Fr m3 m4 [be] := by
      rw [← hm4]
      intro y hy hyb
      simp only [List.mem_singleton] at hyb
      simp [Mem.set, hyb]
    have hbe1 : m1 be ≠ none := by rw [hB.hb]; exact Option.some_ne_none _
    have rd15 := (rd1.frame f4 (by intro x hx; simp only [List.mem_singleton] at hx; subst hx; exact hbe1)).frame f5 (by simp)
    obtain ⟨p1, o1, c1, q1, d1, rfl, hc1', hr1⟩ := rd15.row (k := 0) (by simp)
    obtain ⟨p2, o2, c2, _, _, rfl, _, _⟩ := rd2.row (k := 0) (by omega)
    clear hl2 outb hm4
    simp only [List.length_cons, List.length_nil, List.getElem_cons_zero, List.length_range, Nat.add_zero] at hc1'
    rw [hlen2] at *
    simp (disch := omega) only [go_sem, hc1', dec_f, undef, if_false, Bool.false_eq_true]
    refine loopQ_intro (fun g Ev m6 => ∃ i : Nat, i ≤ k ∧ g = k - i ∧ Ev = [(5, .int .i64 (k : Nat)), (10, .int .i64 (c : Nat)), (11, .slice (some ⟨p2, o2, none⟩) k c2), (13, .int .i64 (i : Nat))] ∧ m6 = m5) k rfl ⟨0, by omega, by omega, rfl, rfl⟩ ?_
    rintro g Ev m6 ⟨i, hi, rfl, rfl, rfl⟩
    simp (disch := omega) only [go_sem]
    refine condB_dec (fun h => ?_) (fun h => ?_)
    · have hik' : i < k := by omega
      obtain ⟨p1', o1', c1', q3, d3, e3, hc3, hr3⟩ := rd2.row (k := i) (by omega)
      simp only [Value.slice.injEq, Option.some.injEq, Addr.mk.injEq] at e3
      obtain ⟨⟨rfl, rfl, -⟩, -, rfl⟩ := e3
      rw [hat2 i (by omega)] at hc3 hr3
      obtain ⟨b4, o4, rfl, hc4⟩ := hr3.rd.at (i := 0) (by simp [nats])
      have htm := cut_tmod hck hik'
      simp only [nats, List.map_cons, List.map_nil, List.getElem_cons_zero, Nat.add_zero, List.length_cons, List.length_nil] at hc3 hc4
      simp (disch := omega) only [go_sem, hc3, hc4, htm, dec_f, undef, if_false, Bool.false_eq_true]
      exact handN_intro (k - (i + 1)) (by omega) ⟨i + 1, by omega, rfl, rfl, rfl⟩
    · simp (disch := omega) only [go_sem]
      refine call_with (runs_spec _) ?_
      rintro r m7 ⟨rfl, f7⟩
      simp (disch := omega) only [go_sem]
      refine post_intro ⟨rfl, ?_⟩
      exact (hB3.fr.trans0 f5).trans0 f7
end Go.Fw
