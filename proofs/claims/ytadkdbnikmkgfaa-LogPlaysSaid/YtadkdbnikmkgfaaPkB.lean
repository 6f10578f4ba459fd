import Derived.Test.YtadkdbnikmkgfaaPkA
set_option linter.unusedSimpArgs false
set_option linter.unusedVariables false
namespace Go.Fw
open Go.Proofs
variable {t rb : Nat} {a : Option Addr} {c : Nat} {b : List UInt8} {s : RS} {m m0 : Mem} {S : List Nat} {L : List As}
theorem rdr_pos (h : (rdrA t rb a c b s).p m) : s.pos ≤ b.length := h.2.2.2.2.1
theorem rdr_len (h : (rdrA t rb a c b s).p m) : b.length ≤ 1099511627776 := h.2.2.2.2.2
theorem pack_Wrong_s (h : (rdrA t rb a c b s).p m) : MC Try.prog n_pack_Reader_Wrong [lpp rb] m fun v M => v = .int .i64 s.wr ∧ Fr m M [] := by
  refine pack_Reader_Wrong_go (by simp [Try.f33]) ?_
  simp (disch := omega) only [go_sem, undef, h.1]
  exact ⟨rfl, Fr.refl _ _⟩
theorem pack_End_s (h : (rdrA t rb a c b s).p m) : MC Try.prog n_pack_Reader_End [lpp rb] m fun v M => (v = .int .i64 (s.fin b).wr ∧ (rdrA t rb a c b (s.fin b)).p M) ∧ Fr m M [rb] := by
  refine pack_Reader_End_go (by simp [Try.f33]) ?_
  have H := Hq.one h
  have hp := rdr_pos h
  by_cases h1 : s.wr = 0 ∧ s.pos < b.length
  · rw [show s.fin b = ⟨s.pos, 5⟩ from if_pos h1]
    obtain ⟨h1, h2⟩ := h1
    simp (disch := omega) only [go_sem, undef, H.cs, h1, dec_t]
    refine wr_rdr H ⟨s.pos, 5⟩ rfl hp fun M f H => ?_
    simp (disch := omega) only [go_sem, undef, H.cs]
    exact ⟨⟨rfl, H.hs.1⟩, H.fr⟩
  · rw [show s.fin b = s from if_neg h1]
    simp (disch := omega) only [go_sem, undef, H.cs]
    repeat' (first
      | ((with_reducible refine newQ H fun _ _ f H2 => ?_); clear f; clear H; have H := H2; clear H2; simp (disch := omega) only [go_sem, undef, H.cs, *])
      | ((with_reducible refine wrQ0 H fun _ f H2 => ?_); clear f; clear H; have H := H2; clear H2; simp (disch := omega) only [go_sem, undef, H.cs, *])
      | ((with_reducible refine wrQ1 H fun _ f H2 => ?_); clear f; clear H; have H := H2; clear H2; simp (disch := omega) only [go_sem, undef, H.cs, *])
      | ((with_reducible refine wrQ2 H fun _ f H2 => ?_); clear f; clear H; have H := H2; clear H2; simp (disch := omega) only [go_sem, undef, H.cs, *])
      | ((with_reducible refine wrQ3 H fun _ f H2 => ?_); clear f; clear H; have H := H2; clear H2; simp (disch := omega) only [go_sem, undef, H.cs, *])
      | ((with_reducible refine wrQ4 H fun _ f H2 => ?_); clear f; clear H; have H := H2; clear H2; simp (disch := omega) only [go_sem, undef, H.cs, *])
      | ((with_reducible refine wrQ5 H fun _ f H2 => ?_); clear f; clear H; have H := H2; clear H2; simp (disch := omega) only [go_sem, undef, H.cs, *])
      | ((with_reducible refine stwQ0 H ?hl ?h1 fun _ f H2 => ?_); (case hl => rfl); (case h1 => rfl); clear f; clear H; have H := H2; clear H2; simp (disch := omega) only [go_sem, undef, H.cs, *])
      | ((with_reducible refine stwQ1 H ?hl ?h1 fun _ f H2 => ?_); (case hl => rfl); (case h1 => rfl); clear f; clear H; have H := H2; clear H2; simp (disch := omega) only [go_sem, undef, H.cs, *])
      | ((with_reducible refine stwQ2 H ?hl ?h1 fun _ f H2 => ?_); (case hl => rfl); (case h1 => rfl); clear f; clear H; have H := H2; clear H2; simp (disch := omega) only [go_sem, undef, H.cs, *])
      | ((with_reducible refine stwQ3 H ?hl ?h1 fun _ f H2 => ?_); (case hl => rfl); (case h1 => rfl); clear f; clear H; have H := H2; clear H2; simp (disch := omega) only [go_sem, undef, H.cs, *])
      | ((with_reducible refine stwQ4 H ?hl ?h1 fun _ f H2 => ?_); (case hl => rfl); (case h1 => rfl); clear f; clear H; have H := H2; clear H2; simp (disch := omega) only [go_sem, undef, H.cs, *])
      | ((with_reducible refine stwQ5 H ?hl ?h1 fun _ f H2 => ?_); (case hl => rfl); (case h1 => rfl); clear f; clear H; have H := H2; clear H2; simp (disch := omega) only [go_sem, undef, H.cs, *])
      | ((with_reducible refine stQ0 H ?hl ?h1 fun _ f H2 => ?_); (case hl => exact Nat.le_of_ble_eq_true rfl); (case h1 => rfl); clear f; (simp only [go_sem] at H2); clear H; have H := H2; clear H2; simp (disch := omega) only [go_sem, undef, H.cs, *])
      | ((with_reducible refine stQ1 H ?hl ?h1 fun _ f H2 => ?_); (case hl => exact Nat.le_of_ble_eq_true rfl); (case h1 => rfl); clear f; (simp only [go_sem] at H2); clear H; have H := H2; clear H2; simp (disch := omega) only [go_sem, undef, H.cs, *])
      | ((with_reducible refine stQ2 H ?hl ?h1 fun _ f H2 => ?_); (case hl => exact Nat.le_of_ble_eq_true rfl); (case h1 => rfl); clear f; (simp only [go_sem] at H2); clear H; have H := H2; clear H2; simp (disch := omega) only [go_sem, undef, H.cs, *])
      | ((with_reducible refine stQ3 H ?hl ?h1 fun _ f H2 => ?_); (case hl => exact Nat.le_of_ble_eq_true rfl); (case h1 => rfl); clear f; (simp only [go_sem] at H2); clear H; have H := H2; clear H2; simp (disch := omega) only [go_sem, undef, H.cs, *])
      | ((with_reducible refine gQ_split (fun hq => ?_) (fun hq => ?_)) <;> (try simp only [Bool.not_true, Bool.not_false] at hq) <;> simp (disch := omega) only [go_sem, undef, H.cs, *])
      | ((with_reducible refine condB_split (fun hq => ?_) (fun hq => ?_)) <;> simp (disch := omega) only [go_sem, undef, H.cs, *]))
    all_goals (try simp only [decide_eq_true_eq, decide_eq_false_iff_not] at *)
    all_goals first
      | exact ⟨⟨rfl, H.hs.1⟩, H.fr⟩
      | (exfalso; omega)
theorem pack_Fail_s (h : (rdrA t rb a c b s).p m) : MC Try.prog n_pack_Reader_Fail [lpp rb] m fun v M => (v = .tuple #[] ∧ (rdrA t rb a c b s.bad).p M) ∧ Fr m M [rb] := by
  refine pack_Reader_Fail_go (by simp [Try.f33]) ?_
  have H := Hq.one h
  have hp := rdr_pos h
  by_cases h1 : s.wr = 0
  · rw [show s.bad = ⟨s.pos, 4⟩ from if_pos h1]
    simp (disch := omega) only [go_sem, undef, H.cs, h1]
    refine wr_rdr H ⟨s.pos, 4⟩ rfl hp fun M f H => ?_
    simp (disch := omega) only [go_sem, undef, H.cs]
    exact ⟨⟨rfl, H.hs.1⟩, H.fr⟩
  · rw [show s.bad = s from if_neg h1]
    simp (disch := omega) only [go_sem, undef, H.cs, dec_f]
    exact ⟨⟨rfl, H.hs.1⟩, H.fr⟩
theorem pack_Count_s (h : (rdrA t rb a c b s).p m) (k : Int) : MC Try.prog n_pack_Reader_Count [lpp rb, .int .i64 k] m fun v M => (v = .int .i64 (s.count b k).1 ∧ (rdrA t rb a c b (s.count b k).2).p M) ∧ Fr m M [rb] := by
  refine pack_Reader_Count_go (by simp [Try.f33]) ?_
  have H := Hq.one h
  have hp := rdr_pos h
  simp (disch := omega) only [go_sem, undef, H.cs]
  refine callS0 (rdrA t rb a c b (s.num b).2) H (pack_Num_s h) rfl rfl fun M f H => ?_
  by_cases h1 : (s.num b).2.wr = 0 ∧ ((s.num b).1 < 0 ∨ k < (s.num b).1)
  · rw [show s.count b k = (0, ⟨s.pos, 2⟩) from if_pos h1]
    simp (disch := omega) only [go_sem, undef, H.cs, h1.1]
    repeat' (first
      | ((with_reducible refine newQ H fun _ _ f H2 => ?_); clear f; clear H; have H := H2; clear H2; simp (disch := omega) only [go_sem, undef, H.cs, *])
      | ((with_reducible refine wrQ0 H fun _ f H2 => ?_); clear f; clear H; have H := H2; clear H2; simp (disch := omega) only [go_sem, undef, H.cs, *])
      | ((with_reducible refine wrQ1 H fun _ f H2 => ?_); clear f; clear H; have H := H2; clear H2; simp (disch := omega) only [go_sem, undef, H.cs, *])
      | ((with_reducible refine wrQ2 H fun _ f H2 => ?_); clear f; clear H; have H := H2; clear H2; simp (disch := omega) only [go_sem, undef, H.cs, *])
      | ((with_reducible refine wrQ3 H fun _ f H2 => ?_); clear f; clear H; have H := H2; clear H2; simp (disch := omega) only [go_sem, undef, H.cs, *])
      | ((with_reducible refine wrQ4 H fun _ f H2 => ?_); clear f; clear H; have H := H2; clear H2; simp (disch := omega) only [go_sem, undef, H.cs, *])
      | ((with_reducible refine wrQ5 H fun _ f H2 => ?_); clear f; clear H; have H := H2; clear H2; simp (disch := omega) only [go_sem, undef, H.cs, *])
      | ((with_reducible refine stwQ0 H ?hl ?h1 fun _ f H2 => ?_); (case hl => rfl); (case h1 => rfl); clear f; clear H; have H := H2; clear H2; simp (disch := omega) only [go_sem, undef, H.cs, *])
      | ((with_reducible refine stwQ1 H ?hl ?h1 fun _ f H2 => ?_); (case hl => rfl); (case h1 => rfl); clear f; clear H; have H := H2; clear H2; simp (disch := omega) only [go_sem, undef, H.cs, *])
      | ((with_reducible refine stwQ2 H ?hl ?h1 fun _ f H2 => ?_); (case hl => rfl); (case h1 => rfl); clear f; clear H; have H := H2; clear H2; simp (disch := omega) only [go_sem, undef, H.cs, *])
      | ((with_reducible refine stwQ3 H ?hl ?h1 fun _ f H2 => ?_); (case hl => rfl); (case h1 => rfl); clear f; clear H; have H := H2; clear H2; simp (disch := omega) only [go_sem, undef, H.cs, *])
      | ((with_reducible refine stwQ4 H ?hl ?h1 fun _ f H2 => ?_); (case hl => rfl); (case h1 => rfl); clear f; clear H; have H := H2; clear H2; simp (disch := omega) only [go_sem, undef, H.cs, *])
      | ((with_reducible refine stwQ5 H ?hl ?h1 fun _ f H2 => ?_); (case hl => rfl); (case h1 => rfl); clear f; clear H; have H := H2; clear H2; simp (disch := omega) only [go_sem, undef, H.cs, *])
      | ((with_reducible refine stQ0 H ?hl ?h1 fun _ f H2 => ?_); (case hl => exact Nat.le_of_ble_eq_true rfl); (case h1 => rfl); clear f; (simp only [go_sem] at H2); clear H; have H := H2; clear H2; simp (disch := omega) only [go_sem, undef, H.cs, *])
      | ((with_reducible refine stQ1 H ?hl ?h1 fun _ f H2 => ?_); (case hl => exact Nat.le_of_ble_eq_true rfl); (case h1 => rfl); clear f; (simp only [go_sem] at H2); clear H; have H := H2; clear H2; simp (disch := omega) only [go_sem, undef, H.cs, *])
      | ((with_reducible refine stQ2 H ?hl ?h1 fun _ f H2 => ?_); (case hl => exact Nat.le_of_ble_eq_true rfl); (case h1 => rfl); clear f; (simp only [go_sem] at H2); clear H; have H := H2; clear H2; simp (disch := omega) only [go_sem, undef, H.cs, *])
      | ((with_reducible refine stQ3 H ?hl ?h1 fun _ f H2 => ?_); (case hl => exact Nat.le_of_ble_eq_true rfl); (case h1 => rfl); clear f; (simp only [go_sem] at H2); clear H; have H := H2; clear H2; simp (disch := omega) only [go_sem, undef, H.cs, *])
      | ((with_reducible refine gQ_split (fun hq => ?_) (fun hq => ?_)) <;> (try simp only [Bool.not_true, Bool.not_false] at hq) <;> simp (disch := omega) only [go_sem, undef, H.cs, *])
      | ((with_reducible refine condB_split (fun hq => ?_) (fun hq => ?_)) <;> simp (disch := omega) only [go_sem, undef, H.cs, *]))
    all_goals (try simp only [decide_eq_true_eq, decide_eq_false_iff_not] at *)
    all_goals first
      | (refine callS0 (rdrA t rb a c b ⟨s.pos, 2⟩) H (pack_fail_s (H.at 0 rfl) s.pos hp 2) rfl rfl fun M f H => ?_
         simp (disch := omega) only [go_sem, undef]
         exact ⟨⟨rfl, H.hs.1⟩, H.fr⟩)
      | (exfalso; omega)
  · rw [show s.count b k = s.num b from if_neg h1]
    simp (disch := omega) only [go_sem, undef, H.cs]
    repeat' (first
      | ((with_reducible refine newQ H fun _ _ f H2 => ?_); clear f; clear H; have H := H2; clear H2; simp (disch := omega) only [go_sem, undef, H.cs, *])
      | ((with_reducible refine wrQ0 H fun _ f H2 => ?_); clear f; clear H; have H := H2; clear H2; simp (disch := omega) only [go_sem, undef, H.cs, *])
      | ((with_reducible refine wrQ1 H fun _ f H2 => ?_); clear f; clear H; have H := H2; clear H2; simp (disch := omega) only [go_sem, undef, H.cs, *])
      | ((with_reducible refine wrQ2 H fun _ f H2 => ?_); clear f; clear H; have H := H2; clear H2; simp (disch := omega) only [go_sem, undef, H.cs, *])
      | ((with_reducible refine wrQ3 H fun _ f H2 => ?_); clear f; clear H; have H := H2; clear H2; simp (disch := omega) only [go_sem, undef, H.cs, *])
      | ((with_reducible refine wrQ4 H fun _ f H2 => ?_); clear f; clear H; have H := H2; clear H2; simp (disch := omega) only [go_sem, undef, H.cs, *])
      | ((with_reducible refine wrQ5 H fun _ f H2 => ?_); clear f; clear H; have H := H2; clear H2; simp (disch := omega) only [go_sem, undef, H.cs, *])
      | ((with_reducible refine stwQ0 H ?hl ?h1 fun _ f H2 => ?_); (case hl => rfl); (case h1 => rfl); clear f; clear H; have H := H2; clear H2; simp (disch := omega) only [go_sem, undef, H.cs, *])
      | ((with_reducible refine stwQ1 H ?hl ?h1 fun _ f H2 => ?_); (case hl => rfl); (case h1 => rfl); clear f; clear H; have H := H2; clear H2; simp (disch := omega) only [go_sem, undef, H.cs, *])
      | ((with_reducible refine stwQ2 H ?hl ?h1 fun _ f H2 => ?_); (case hl => rfl); (case h1 => rfl); clear f; clear H; have H := H2; clear H2; simp (disch := omega) only [go_sem, undef, H.cs, *])
      | ((with_reducible refine stwQ3 H ?hl ?h1 fun _ f H2 => ?_); (case hl => rfl); (case h1 => rfl); clear f; clear H; have H := H2; clear H2; simp (disch := omega) only [go_sem, undef, H.cs, *])
      | ((with_reducible refine stwQ4 H ?hl ?h1 fun _ f H2 => ?_); (case hl => rfl); (case h1 => rfl); clear f; clear H; have H := H2; clear H2; simp (disch := omega) only [go_sem, undef, H.cs, *])
      | ((with_reducible refine stwQ5 H ?hl ?h1 fun _ f H2 => ?_); (case hl => rfl); (case h1 => rfl); clear f; clear H; have H := H2; clear H2; simp (disch := omega) only [go_sem, undef, H.cs, *])
      | ((with_reducible refine stQ0 H ?hl ?h1 fun _ f H2 => ?_); (case hl => exact Nat.le_of_ble_eq_true rfl); (case h1 => rfl); clear f; (simp only [go_sem] at H2); clear H; have H := H2; clear H2; simp (disch := omega) only [go_sem, undef, H.cs, *])
      | ((with_reducible refine stQ1 H ?hl ?h1 fun _ f H2 => ?_); (case hl => exact Nat.le_of_ble_eq_true rfl); (case h1 => rfl); clear f; (simp only [go_sem] at H2); clear H; have H := H2; clear H2; simp (disch := omega) only [go_sem, undef, H.cs, *])
      | ((with_reducible refine stQ2 H ?hl ?h1 fun _ f H2 => ?_); (case hl => exact Nat.le_of_ble_eq_true rfl); (case h1 => rfl); clear f; (simp only [go_sem] at H2); clear H; have H := H2; clear H2; simp (disch := omega) only [go_sem, undef, H.cs, *])
      | ((with_reducible refine stQ3 H ?hl ?h1 fun _ f H2 => ?_); (case hl => exact Nat.le_of_ble_eq_true rfl); (case h1 => rfl); clear f; (simp only [go_sem] at H2); clear H; have H := H2; clear H2; simp (disch := omega) only [go_sem, undef, H.cs, *])
      | ((with_reducible refine gQ_split (fun hq => ?_) (fun hq => ?_)) <;> (try simp only [Bool.not_true, Bool.not_false] at hq) <;> simp (disch := omega) only [go_sem, undef, H.cs, *])
      | ((with_reducible refine condB_split (fun hq => ?_) (fun hq => ?_)) <;> simp (disch := omega) only [go_sem, undef, H.cs, *]))
    all_goals (try simp only [decide_eq_true_eq, decide_eq_false_iff_not] at *)
    all_goals first
      | exact ⟨⟨rfl, H.hs.1⟩, H.fr⟩
      | (exfalso; omega)
theorem pack_RText_s (h : (rdrA t rb a c b s).p m) (k : Int) (k0 : 0 ≤ k ∧ k < 1000000) : MC Try.prog n_pack_Reader_Text [lpp rb, .int .i64 k] m fun v M => (v = .string (s.text b k).1 ∧ (rdrA t rb a c b (s.text b k).2).p M) ∧ Fr m M [rb] := by
  refine pack_Reader_Text_go (by simp [Try.f33]) ?_
  have H := Hq.one h
  have hp := rdr_pos h
  have hB := rdr_len h
  simp (disch := omega) only [go_sem, undef, H.cs]
  refine callS0 (rdrA t rb a c b (s.count b k).2) H (pack_Count_s h k) rfl rfl fun M f H => ?_
  have hcp := s.count_pos b k hp
  by_cases h1 : (s.count b k).2.wr = 0
  · obtain ⟨hr1, hr2⟩ := s.count_range b k k0.1 h1
    unfold RS.text
    rw [if_neg (by simpa using h1)]
    generalize hc : s.count b k = q at *
    obtain ⟨n, s2⟩ := q
    simp only at *
    by_cases h2 : ((b.length - s2.pos : Nat) : Int) < n
    · rw [if_pos h2]
      simp (disch := omega) only [go_sem, undef, H.cs, h1, dec_t]
      refine callS0 (rdrA t rb a c b ⟨s.pos, 3⟩) H (pack_fail_s (H.at 0 rfl) s.pos hp 3) rfl rfl fun M f H => ?_
      simp (disch := omega) only [go_sem, undef]
      exact ⟨⟨rfl, H.hs.1⟩, H.fr⟩
    · rw [if_neg h2]
      obtain ⟨N, rfl⟩ := Int.eq_ofNat_of_zero_le hr1
      simp only [Int.toNat_natCast]
      have hB2 := (H.at 0 rfl).2.1
      obtain ⟨a', c', hcut, hrd, _⟩ := hB2.cut (by decide) s2.pos (s2.pos + N) (by omega) (by omega)
      have hlen : s2.pos + N - s2.pos = N := by omega
      have hl : ((b.drop s2.pos).take N).length = N := by simp; omega
      have h3 : List.drop s2.pos (List.take (s2.pos + N) b) = (b.drop s2.pos).take N := by rw [List.drop_take, hlen]
      rw [hlen, h3] at hrd
      rw [hlen] at hcut
      have hcut' : cutS 1 a c (s2.pos : Int) ((s2.pos : Int) + (N : Int)) = some (.slice a' N c') := by rw [← hcut]; rfl
      have hb2 : rd .b2s [.slice a' N c'] M = some (.string ⟨((b.drop s2.pos).take N).toArray⟩) := by
        have := rd_b2s (a := a') (c := c') (l := (b.drop s2.pos).take N) (m := M) (by rw [hl]; exact hrd)
        rw [hl] at this; exact this
      simp (disch := omega) only [go_sem, undef, H.cs, h1, dec_f, hcut', hb2, rd_slc11]
      refine wr_rdr H ⟨s2.pos + N, 0⟩ rfl (by simp only; omega) fun M f H => ?_
      simp (disch := omega) only [go_sem, undef]
      exact ⟨⟨rfl, H.hs.1⟩, H.fr⟩
  · rw [show s.text b k = (noB, (s.count b k).2) from if_pos h1]
    simp (disch := omega) only [go_sem, undef, H.cs, dec_f]
    exact ⟨⟨rfl, H.hs.1⟩, H.fr⟩
theorem pack_RFlag_s (h : (rdrA t rb a c b s).p m) : MC Try.prog n_pack_Reader_Flag [lpp rb] m fun v M => (v = .bool (s.flag b).1 ∧ (rdrA t rb a c b (s.flag b).2).p M) ∧ Fr m M [rb] := by
  refine pack_Reader_Flag_go (by simp [Try.f33]) ?_
  have H := Hq.one h
  have hp := rdr_pos h
  have hB := rdr_len h
  by_cases h1 : s.wr = 0
  · unfold RS.flag
    rw [if_neg (by simpa using h1)]
    by_cases h2 : s.pos = b.length
    · rw [List.getElem?_eq_none (by omega)]
      simp (disch := omega) only [go_sem, undef, H.cs, h1, dec_t]
      refine callS0 (rdrA t rb a c b ⟨s.pos, 3⟩) H (pack_fail_s (H.at 0 rfl) s.pos hp 3) rfl rfl fun M f H => ?_
      simp (disch := omega) only [go_sem, undef]
      exact ⟨⟨rfl, H.hs.1⟩, H.fr⟩
    · refine RdS.elK h.2.1 (show s.pos < b.length by omega) (by decide) fun b1 o1 x hx hix hE => ?_
      rw [hx]
      simp only
      have hxl := x.toNat_lt
      by_cases h3 : 1 < x.toNat
      · rw [if_pos h3]
        simp (disch := omega) only [go_sem, undef, H.cs, h1, dec_f, hix, hE.ld0, dec_t]
        refine callS0 (rdrA t rb a c b ⟨s.pos, 4⟩) H (pack_fail_s (H.at 0 rfl) s.pos hp 4) rfl rfl fun M f H => ?_
        simp (disch := omega) only [go_sem, undef]
        exact ⟨⟨rfl, H.hs.1⟩, H.fr⟩
      · rw [if_neg h3]
        simp (disch := omega) only [go_sem, undef, H.cs, h1, dec_f, hix, hE.ld0]
        refine wr_rdr H ⟨s.pos + 1, 0⟩ (by simp [h1]) (by simp only; omega) fun M f H => ?_
        simp (disch := omega) only [go_sem, undef]
        refine ⟨⟨?_, H.hs.1⟩, H.fr⟩
        congr 1
        rw [decide_eq_decide]; omega
  · rw [RS.flag_bad h1]
    simp (disch := omega) only [go_sem, undef, H.cs, dec_f]
    exact ⟨⟨rfl, H.hs.1⟩, H.fr⟩
end Go.Fw
