import Derived.Test.YtadkdbnikmkgfaaPkG
set_option linter.unusedSimpArgs false
set_option linter.unusedVariables false
namespace Go.Fw
open Go.Proofs
variable {t rb : Nat} {a : Option Addr} {c : Nat} {b : List UInt8} {s : RS} {m m0 : Mem} {S : List Nat} {L : List As}
theorem ref1_End_s (h : (rdrA t rb a c b s).p m) : MC Try.prog n_ref1_Reader_End [lpp rb] m fun v M => (v = .int .i64 (s.fin b).wr ∧ (rdrA t rb a c b (s.fin b)).p M) ∧ Fr m M [rb] := by
  refine ref1_Reader_End_go (by simp [Try.f33]) ?_
  have H := Hq.one h
  have hp := rdr_pos h
  by_cases h1 : s.wr = 0 ∧ s.pos < b.length
  · rw [show s.fin b = ⟨s.pos, 5⟩ from if_pos h1]
    obtain ⟨h1, h2⟩ := h1
    simp (disch := omega) only [go_sem, undef, H.cs, h1, dec_t]
    refine tS0 H (fun h => ref1_fail_s h 5 h1) fun M f H => ?_
    simp (disch := omega) only [go_sem, undef, H.cs]
    exact ⟨⟨rfl, H.hs.1⟩, H.fr⟩
  · rw [show s.fin b = s from if_neg h1]
    simp (disch := omega) only [go_sem, undef, H.cs]
    repeat' (first
      | ((with_reducible refine newQ H fun _ _ f H2 => ?_); clear f; clear H; have H := H2; clear H2; simp (disch := omega) only [go_sem, undef, H.cs, *])
      | ((with_reducible refine wrQ0 H fun _ f H2 => ?_); clear f; clear H; have H := H2; clear H2; simp (disch := omega) only [go_sem, undef, H.cs, *])
      | ((with_reducible refine wrQ1 H fun _ f H2 => ?_); clear f; clear H; have H := H2; clear H2; simp (disch := omega) only [go_sem, undef, H.cs, *])
      | ((with_reducible refine wrQ2 H fun _ f H2 => ?_); clear f; clear H; have H := H2; clear H2; simp (disch := omega) only [go_sem, undef, H.cs, *])
      | ((with_reducible refine wrQ3 H fun _ f H2 => ?_); clear f; clear H; have H := H2; clear H2; simp (disch := omega) only [go_sem, undef, H.cs, *])
      | ((with_reducible refine wrQ4 H fun _ f H2 => ?_); clear f; clear H; have H := H2; clear H2; simp (disch := omega) only [go_sem, undef, H.cs, *])
      | ((with_reducible refine wrQ5 H fun _ f H2 => ?_); clear f; clear H; have H := H2; clear H2; simp (disch := omega) only [go_sem, undef, H.cs, *])
      | ((with_reducible refine stwQ0 H ?hl ?h1 fun _ f H2 => ?_); (case hl => rfl); (case h1 => rfl); clear f; clear H; have H := H2; clear H2; simp (disch := omega) only [go_sem, undef, H.cs, *])
      | ((with_reducible refine stwQ1 H ?hl ?h1 fun _ f H2 => ?_); (case hl => rfl); (case h1 => rfl); clear f; clear H; have H := H2; clear H2; simp (disch := omega) only [go_sem, undef, H.cs, *])
      | ((with_reducible refine stwQ2 H ?hl ?h1 fun _ f H2 => ?_); (case hl => rfl); (case h1 => rfl); clear f; clear H; have H := H2; clear H2; simp (disch := omega) only [go_sem, undef, H.cs, *])
      | ((with_reducible refine stwQ3 H ?hl ?h1 fun _ f H2 => ?_); (case hl => rfl); (case h1 => rfl); clear f; clear H; have H := H2; clear H2; simp (disch := omega) only [go_sem, undef, H.cs, *])
      | ((with_reducible refine stwQ4 H ?hl ?h1 fun _ f H2 => ?_); (case hl => rfl); (case h1 => rfl); clear f; clear H; have H := H2; clear H2; simp (disch := omega) only [go_sem, undef, H.cs, *])
      | ((with_reducible refine stwQ5 H ?hl ?h1 fun _ f H2 => ?_); (case hl => rfl); (case h1 => rfl); clear f; clear H; have H := H2; clear H2; simp (disch := omega) only [go_sem, undef, H.cs, *])
      | ((with_reducible refine stQ0 H ?hl ?h1 fun _ f H2 => ?_); (case hl => exact Nat.le_of_ble_eq_true rfl); (case h1 => rfl); clear f; (simp only [go_sem] at H2); clear H; have H := H2; clear H2; simp (disch := omega) only [go_sem, undef, H.cs, *])
      | ((with_reducible refine stQ1 H ?hl ?h1 fun _ f H2 => ?_); (case hl => exact Nat.le_of_ble_eq_true rfl); (case h1 => rfl); clear f; (simp only [go_sem] at H2); clear H; have H := H2; clear H2; simp (disch := omega) only [go_sem, undef, H.cs, *])
      | ((with_reducible refine stQ2 H ?hl ?h1 fun _ f H2 => ?_); (case hl => exact Nat.le_of_ble_eq_true rfl); (case h1 => rfl); clear f; (simp only [go_sem] at H2); clear H; have H := H2; clear H2; simp (disch := omega) only [go_sem, undef, H.cs, *])
      | ((with_reducible refine stQ3 H ?hl ?h1 fun _ f H2 => ?_); (case hl => exact Nat.le_of_ble_eq_true rfl); (case h1 => rfl); clear f; (simp only [go_sem] at H2); clear H; have H := H2; clear H2; simp (disch := omega) only [go_sem, undef, H.cs, *])
      | ((with_reducible refine gQ_split (fun hq => ?_) (fun hq => ?_)) <;> (try simp only [Bool.not_true, Bool.not_false] at hq) <;> simp (disch := omega) only [go_sem, undef, H.cs, *])
      | ((with_reducible refine condB_split (fun hq => ?_) (fun hq => ?_)) <;> simp (disch := omega) only [go_sem, undef, H.cs, *]))
    all_goals (try simp only [decide_eq_true_eq, decide_eq_false_iff_not] at *)
    all_goals first
      | exact ⟨⟨rfl, H.hs.1⟩, H.fr⟩
      | (exfalso; omega)
theorem ref1_Flag_s (h : (rdrA t rb a c b s).p m) : MC Try.prog n_ref1_Reader_Flag [lpp rb] m fun v M => (v = .bool (s.flag b).1 ∧ (rdrA t rb a c b (s.flag b).2).p M) ∧ Fr m M [rb] := by
  refine ref1_Reader_Flag_go (by simp [Try.f33]) ?_
  have H := Hq.one h
  have hp := rdr_pos h
  have hB := rdr_len h
  by_cases h1 : s.wr = 0
  · unfold RS.flag
    rw [if_neg (by simpa using h1)]
    by_cases h2 : s.pos = b.length
    · rw [List.getElem?_eq_none (by omega)]
      simp (disch := omega) only [go_sem, undef, H.cs, h1, dec_t]
      refine tS0 H (fun h => ref1_fail_s h 3 h1) fun M f H => ?_
      simp (disch := omega) only [go_sem, undef]
      exact ⟨⟨rfl, H.hs.1⟩, H.fr⟩
    · refine RdS.elK h.2.1 (show s.pos < b.length by omega) (by decide) fun b1 o1 x hx hix hE => ?_
      rw [hx]
      simp only
      have hxl := x.toNat_lt
      by_cases h3 : 1 < x.toNat
      · rw [if_pos h3]
        simp (disch := omega) only [go_sem, undef, H.cs, h1, dec_f, hix, hE.ld0, dec_t]
        refine tS0 H (fun h => ref1_fail_s h 4 h1) fun M f H => ?_
        simp (disch := omega) only [go_sem, undef]
        exact ⟨⟨rfl, H.hs.1⟩, H.fr⟩
      · rw [if_neg h3]
        simp (disch := omega) only [go_sem, undef, H.cs, h1, dec_f, hix, hE.ld0]
        refine wr_rdr H ⟨s.pos + 1, 0⟩ (by simp [h1]) (by simp only; omega) fun M f H => ?_
        simp (disch := omega) only [go_sem, undef]
        refine ⟨⟨?_, H.hs.1⟩, H.fr⟩
        congr 1
        rw [decide_eq_decide]; omega
  · rw [RS.flag_bad h1]
    simp (disch := omega) only [go_sem, undef, H.cs, dec_f]
    exact ⟨⟨rfl, H.hs.1⟩, H.fr⟩
theorem ref1_Text_s (h : (rdrA t rb a c b s).p m) (k : Int) (k0 : 0 ≤ k ∧ k < 1000000) : MC Try.prog n_ref1_Reader_Text [lpp rb, .int .i64 k] m fun v M => (v = .string (s.text b k).1 ∧ (rdrA t rb a c b (s.text b k).2).p M) ∧ Fr m M [rb] := by
  have hp := rdr_pos h
  have hB := rdr_len h
  have hcp := s.num_pos b hp
  have hrg := s.num_range b
  by_cases h1 : (s.num b).2.wr = 0
  · by_cases h2 : (s.num b).1 < 0 ∨ k < (s.num b).1
    · have e : s.text b k = (noB, ⟨s.pos, 2⟩) := by
        have : s.count b k = (0, ⟨s.pos, 2⟩) := by unfold RS.count; rw [if_pos ⟨h1, h2⟩]
        unfold RS.text; rw [this, if_pos (by simp)]
      rw [e]
      by_cases h5 : (s.num b).1 < 0
      · refine ref1_Reader_Text_go (by simp [Try.f33]) ?_
        have H := Hq.one h
        simp (disch := omega) only [go_sem, undef, H.cs]
        refine tS0 H (fun h => ref1_Num_s h) fun M f H => ?_
        simp (disch := omega) only [go_sem, undef, H.cs, h1, dec_t]
        refine tS0 H (fun h => ref1_fail_s h 2 h1) fun M f H => ?_
        simp (disch := omega) only [go_sem, undef, H.cs]
        refine wr_rdr H ⟨s.pos, 2⟩ rfl hp fun M f H => ?_
        simp (disch := omega) only [go_sem, undef]
        exact ⟨⟨rfl, H.hs.1⟩, H.fr⟩
      · have h6 : k < (s.num b).1 := by omega
        refine ref1_Reader_Text_go (by simp [Try.f33]) ?_
        have H := Hq.one h
        simp (disch := omega) only [go_sem, undef, H.cs]
        refine tS0 H (fun h => ref1_Num_s h) fun M f H => ?_
        simp (disch := omega) only [go_sem, undef, H.cs, h1, dec_t, dec_f]
        refine tS0 H (fun h => ref1_fail_s h 2 h1) fun M f H => ?_
        simp (disch := omega) only [go_sem, undef, H.cs]
        refine wr_rdr H ⟨s.pos, 2⟩ rfl hp fun M f H => ?_
        simp (disch := omega) only [go_sem, undef]
        exact ⟨⟨rfl, H.hs.1⟩, H.fr⟩
    · have hc : s.count b k = s.num b := by unfold RS.count; rw [if_neg (fun h => h2 h.2)]
      have hn0 : 0 ≤ (s.num b).1 ∧ (s.num b).1 ≤ k := by omega
      obtain ⟨N, hN⟩ := Int.eq_ofNat_of_zero_le hn0.1
      by_cases h3 : ((b.length - (s.num b).2.pos : Nat) : Int) < (N : Int)
      · have e : s.text b k = (noB, ⟨s.pos, 3⟩) := by
          unfold RS.text; rw [hc, if_neg (by simpa using h1), hN, if_pos h3]
        rw [e]
        refine ref1_Reader_Text_go (by simp [Try.f33]) ?_
        have H := Hq.one h
        simp (disch := omega) only [go_sem, undef, H.cs]
        refine tS0 H (fun h => ref1_Num_s h) fun M f H => ?_
        simp (disch := omega) only [go_sem, undef, H.cs, h1, hN, dec_f, dec_t]
        refine tS0 H (fun h => ref1_fail_s h 3 h1) fun M f H => ?_
        simp (disch := omega) only [go_sem, undef, H.cs]
        refine wr_rdr H ⟨s.pos, 3⟩ rfl hp fun M f H => ?_
        simp (disch := omega) only [go_sem, undef]
        exact ⟨⟨rfl, H.hs.1⟩, H.fr⟩
      · have e : s.text b k = (⟨((b.drop (s.num b).2.pos).take N).toArray⟩, ⟨(s.num b).2.pos + N, 0⟩) := by
          unfold RS.text; rw [hc, if_neg (by simpa using h1), hN, if_neg h3]; simp only [Int.toNat_natCast]
        rw [e]
        obtain ⟨a', c', hcut, _, _⟩ := h.2.1.cut (by decide) (s.num b).2.pos ((s.num b).2.pos + N) (by omega) (by omega)
        have hlen : (s.num b).2.pos + N - (s.num b).2.pos = N := by omega
        have hl : ((b.drop (s.num b).2.pos).take N).length = N := by simp; omega
        have h4 : List.drop (s.num b).2.pos (List.take ((s.num b).2.pos + N) b) = (b.drop (s.num b).2.pos).take N := by rw [List.drop_take, hlen]
        have hcut' : cutS 1 a c ((s.num b).2.pos : Int) (((s.num b).2.pos : Int) + (N : Int)) = some (.slice a' N c') := by rw [hlen] at hcut; rw [← hcut]; rfl
        have hb2 : ∀ M, RdB M (.slice a b.length c) b → rd .b2s [.slice a' N c'] M = some (.string ⟨((b.drop (s.num b).2.pos).take N).toArray⟩) := fun M hM => by
          obtain ⟨a2, c2, hcut2, hrd2, _⟩ := hM.cut (by decide) (s.num b).2.pos ((s.num b).2.pos + N) (by omega) (by omega)
          have e2 := hcut.symm.trans hcut2
          rw [hlen] at e2
          cases e2
          rw [hlen, h4] at hrd2
          have := rd_b2s (a := a') (c := c') (l := (b.drop (s.num b).2.pos).take N) (m := M) (by rw [hl]; exact hrd2)
          rw [hl] at this; exact this
        refine ref1_Reader_Text_go (by simp [Try.f33]) ?_
        have H := Hq.one h
        simp (disch := omega) only [go_sem, undef, H.cs]
        refine tS0 H (fun h => ref1_Num_s h) fun M f H => ?_
        simp (disch := omega) only [go_sem, undef, H.cs, h1, hN, dec_f, hcut', hb2 _ (H.at 0 rfl).2.1, rd_slc11]
        refine wr_rdr H ⟨(s.num b).2.pos + N, 0⟩ rfl (by simp only; omega) fun M f H => ?_
        simp (disch := omega) only [go_sem, undef]
        exact ⟨⟨rfl, H.hs.1⟩, H.fr⟩
  · have hc : s.count b k = s.num b := by unfold RS.count; rw [if_neg (fun h => h1 h.1)]
    have e : s.text b k = (noB, (s.num b).2) := by unfold RS.text; rw [hc, if_pos h1]
    rw [e]
    refine ref1_Reader_Text_go (by simp [Try.f33]) ?_
    have H := Hq.one h
    simp (disch := omega) only [go_sem, undef, H.cs]
    refine tS0 H (fun h => ref1_Num_s h) fun M f H => ?_
    simp (disch := omega) only [go_sem, undef, H.cs, dec_f]
    exact ⟨⟨rfl, H.hs.1⟩, H.fr⟩
theorem ref15_getBallot_s (h : (rdrA t rb a c b s).p m) : MC Try.prog n_ref15_getBallot [lpp rb] m fun v M => (v = pv (s.two b).1 ∧ (rdrA t rb a c b (s.two b).2).p M) ∧ Fr m M [rb] := by
  refine ref15_getBallot_go (by simp [Try.f33]) ?_
  have H := Hq.one h
  simp (disch := omega) only [go_sem, undef]
  repeat' (first
    | ((with_reducible refine newQ H fun _ _ f H2 => ?_); clear f; clear H; have H := H2; clear H2; simp (disch := omega) only [go_sem, undef, H.cs, *])
    | ((with_reducible refine wrQ0 H fun _ f H2 => ?_); clear f; clear H; have H := H2; clear H2; simp (disch := omega) only [go_sem, undef, H.cs, *])
    | ((with_reducible refine wrQ1 H fun _ f H2 => ?_); clear f; clear H; have H := H2; clear H2; simp (disch := omega) only [go_sem, undef, H.cs, *])
    | ((with_reducible refine wrQ2 H fun _ f H2 => ?_); clear f; clear H; have H := H2; clear H2; simp (disch := omega) only [go_sem, undef, H.cs, *])
    | ((with_reducible refine wrQ3 H fun _ f H2 => ?_); clear f; clear H; have H := H2; clear H2; simp (disch := omega) only [go_sem, undef, H.cs, *])
    | ((with_reducible refine wrQ4 H fun _ f H2 => ?_); clear f; clear H; have H := H2; clear H2; simp (disch := omega) only [go_sem, undef, H.cs, *])
    | ((with_reducible refine wrQ5 H fun _ f H2 => ?_); clear f; clear H; have H := H2; clear H2; simp (disch := omega) only [go_sem, undef, H.cs, *])
    | ((with_reducible refine stwQ0 H ?hl ?h1 fun _ f H2 => ?_); (case hl => rfl); (case h1 => rfl); clear f; clear H; have H := H2; clear H2; simp (disch := omega) only [go_sem, undef, H.cs, *])
    | ((with_reducible refine stwQ1 H ?hl ?h1 fun _ f H2 => ?_); (case hl => rfl); (case h1 => rfl); clear f; clear H; have H := H2; clear H2; simp (disch := omega) only [go_sem, undef, H.cs, *])
    | ((with_reducible refine stwQ2 H ?hl ?h1 fun _ f H2 => ?_); (case hl => rfl); (case h1 => rfl); clear f; clear H; have H := H2; clear H2; simp (disch := omega) only [go_sem, undef, H.cs, *])
    | ((with_reducible refine stwQ3 H ?hl ?h1 fun _ f H2 => ?_); (case hl => rfl); (case h1 => rfl); clear f; clear H; have H := H2; clear H2; simp (disch := omega) only [go_sem, undef, H.cs, *])
    | ((with_reducible refine stwQ4 H ?hl ?h1 fun _ f H2 => ?_); (case hl => rfl); (case h1 => rfl); clear f; clear H; have H := H2; clear H2; simp (disch := omega) only [go_sem, undef, H.cs, *])
    | ((with_reducible refine stwQ5 H ?hl ?h1 fun _ f H2 => ?_); (case hl => rfl); (case h1 => rfl); clear f; clear H; have H := H2; clear H2; simp (disch := omega) only [go_sem, undef, H.cs, *])
    | ((with_reducible refine stQ0 H ?hl ?h1 fun _ f H2 => ?_); (case hl => exact Nat.le_of_ble_eq_true rfl); (case h1 => rfl); clear f; (simp only [go_sem] at H2); clear H; have H := H2; clear H2; simp (disch := omega) only [go_sem, undef, H.cs, *])
    | ((with_reducible refine stQ1 H ?hl ?h1 fun _ f H2 => ?_); (case hl => exact Nat.le_of_ble_eq_true rfl); (case h1 => rfl); clear f; (simp only [go_sem] at H2); clear H; have H := H2; clear H2; simp (disch := omega) only [go_sem, undef, H.cs, *])
    | ((with_reducible refine stQ2 H ?hl ?h1 fun _ f H2 => ?_); (case hl => exact Nat.le_of_ble_eq_true rfl); (case h1 => rfl); clear f; (simp only [go_sem] at H2); clear H; have H := H2; clear H2; simp (disch := omega) only [go_sem, undef, H.cs, *])
    | ((with_reducible refine stQ3 H ?hl ?h1 fun _ f H2 => ?_); (case hl => exact Nat.le_of_ble_eq_true rfl); (case h1 => rfl); clear f; (simp only [go_sem] at H2); clear H; have H := H2; clear H2; simp (disch := omega) only [go_sem, undef, H.cs, *])
    | ((with_reducible refine tS0 H (fun h => ref1_Num_s h) fun _ f H2 => ?_); clear f; clear H; have H := H2; clear H2; simp (disch := omega) only [go_sem, undef, H.cs, *])
    | ((with_reducible refine tS1 H (fun h => ref1_Num_s h) fun _ f H2 => ?_); clear f; clear H; have H := H2; clear H2; simp (disch := omega) only [go_sem, undef, H.cs, *])
    | ((with_reducible refine tS2 H (fun h => ref1_Num_s h) fun _ f H2 => ?_); clear f; clear H; have H := H2; clear H2; simp (disch := omega) only [go_sem, undef, H.cs, *])
    | ((with_reducible refine tS3 H (fun h => ref1_Num_s h) fun _ f H2 => ?_); clear f; clear H; have H := H2; clear H2; simp (disch := omega) only [go_sem, undef, H.cs, *])
    | ((with_reducible refine tS4 H (fun h => ref1_Num_s h) fun _ f H2 => ?_); clear f; clear H; have H := H2; clear H2; simp (disch := omega) only [go_sem, undef, H.cs, *])
    | ((with_reducible refine gQ_split (fun hq => ?_) (fun hq => ?_)) <;> (try simp only [Bool.not_true, Bool.not_false] at hq) <;> simp (disch := omega) only [go_sem, undef, H.cs, *])
    | ((with_reducible refine condB_split (fun hq => ?_) (fun hq => ?_)) <;> simp (disch := omega) only [go_sem, undef, H.cs, *]))
  exact ⟨⟨rfl, H.at 2 rfl⟩, H.fr⟩
theorem ref15_getInst_s (h : (rdrA t rb a c b s).p m) : MC Try.prog n_ref15_getInst [lpp rb] m fun v M => (v = pv (s.two b).1 ∧ (rdrA t rb a c b (s.two b).2).p M) ∧ Fr m M [rb] := by
  refine ref15_getInst_go (by simp [Try.f33]) ?_
  have H := Hq.one h
  simp (disch := omega) only [go_sem, undef]
  repeat' (first
    | ((with_reducible refine newQ H fun _ _ f H2 => ?_); clear f; clear H; have H := H2; clear H2; simp (disch := omega) only [go_sem, undef, H.cs, *])
    | ((with_reducible refine wrQ0 H fun _ f H2 => ?_); clear f; clear H; have H := H2; clear H2; simp (disch := omega) only [go_sem, undef, H.cs, *])
    | ((with_reducible refine wrQ1 H fun _ f H2 => ?_); clear f; clear H; have H := H2; clear H2; simp (disch := omega) only [go_sem, undef, H.cs, *])
    | ((with_reducible refine wrQ2 H fun _ f H2 => ?_); clear f; clear H; have H := H2; clear H2; simp (disch := omega) only [go_sem, undef, H.cs, *])
    | ((with_reducible refine wrQ3 H fun _ f H2 => ?_); clear f; clear H; have H := H2; clear H2; simp (disch := omega) only [go_sem, undef, H.cs, *])
    | ((with_reducible refine wrQ4 H fun _ f H2 => ?_); clear f; clear H; have H := H2; clear H2; simp (disch := omega) only [go_sem, undef, H.cs, *])
    | ((with_reducible refine wrQ5 H fun _ f H2 => ?_); clear f; clear H; have H := H2; clear H2; simp (disch := omega) only [go_sem, undef, H.cs, *])
    | ((with_reducible refine stwQ0 H ?hl ?h1 fun _ f H2 => ?_); (case hl => rfl); (case h1 => rfl); clear f; clear H; have H := H2; clear H2; simp (disch := omega) only [go_sem, undef, H.cs, *])
    | ((with_reducible refine stwQ1 H ?hl ?h1 fun _ f H2 => ?_); (case hl => rfl); (case h1 => rfl); clear f; clear H; have H := H2; clear H2; simp (disch := omega) only [go_sem, undef, H.cs, *])
    | ((with_reducible refine stwQ2 H ?hl ?h1 fun _ f H2 => ?_); (case hl => rfl); (case h1 => rfl); clear f; clear H; have H := H2; clear H2; simp (disch := omega) only [go_sem, undef, H.cs, *])
    | ((with_reducible refine stwQ3 H ?hl ?h1 fun _ f H2 => ?_); (case hl => rfl); (case h1 => rfl); clear f; clear H; have H := H2; clear H2; simp (disch := omega) only [go_sem, undef, H.cs, *])
    | ((with_reducible refine stwQ4 H ?hl ?h1 fun _ f H2 => ?_); (case hl => rfl); (case h1 => rfl); clear f; clear H; have H := H2; clear H2; simp (disch := omega) only [go_sem, undef, H.cs, *])
    | ((with_reducible refine stwQ5 H ?hl ?h1 fun _ f H2 => ?_); (case hl => rfl); (case h1 => rfl); clear f; clear H; have H := H2; clear H2; simp (disch := omega) only [go_sem, undef, H.cs, *])
    | ((with_reducible refine stQ0 H ?hl ?h1 fun _ f H2 => ?_); (case hl => exact Nat.le_of_ble_eq_true rfl); (case h1 => rfl); clear f; (simp only [go_sem] at H2); clear H; have H := H2; clear H2; simp (disch := omega) only [go_sem, undef, H.cs, *])
    | ((with_reducible refine stQ1 H ?hl ?h1 fun _ f H2 => ?_); (case hl => exact Nat.le_of_ble_eq_true rfl); (case h1 => rfl); clear f; (simp only [go_sem] at H2); clear H; have H := H2; clear H2; simp (disch := omega) only [go_sem, undef, H.cs, *])
    | ((with_reducible refine stQ2 H ?hl ?h1 fun _ f H2 => ?_); (case hl => exact Nat.le_of_ble_eq_true rfl); (case h1 => rfl); clear f; (simp only [go_sem] at H2); clear H; have H := H2; clear H2; simp (disch := omega) only [go_sem, undef, H.cs, *])
    | ((with_reducible refine stQ3 H ?hl ?h1 fun _ f H2 => ?_); (case hl => exact Nat.le_of_ble_eq_true rfl); (case h1 => rfl); clear f; (simp only [go_sem] at H2); clear H; have H := H2; clear H2; simp (disch := omega) only [go_sem, undef, H.cs, *])
    | ((with_reducible refine tS0 H (fun h => ref1_Num_s h) fun _ f H2 => ?_); clear f; clear H; have H := H2; clear H2; simp (disch := omega) only [go_sem, undef, H.cs, *])
    | ((with_reducible refine tS1 H (fun h => ref1_Num_s h) fun _ f H2 => ?_); clear f; clear H; have H := H2; clear H2; simp (disch := omega) only [go_sem, undef, H.cs, *])
    | ((with_reducible refine tS2 H (fun h => ref1_Num_s h) fun _ f H2 => ?_); clear f; clear H; have H := H2; clear H2; simp (disch := omega) only [go_sem, undef, H.cs, *])
    | ((with_reducible refine tS3 H (fun h => ref1_Num_s h) fun _ f H2 => ?_); clear f; clear H; have H := H2; clear H2; simp (disch := omega) only [go_sem, undef, H.cs, *])
    | ((with_reducible refine tS4 H (fun h => ref1_Num_s h) fun _ f H2 => ?_); clear f; clear H; have H := H2; clear H2; simp (disch := omega) only [go_sem, undef, H.cs, *])
    | ((with_reducible refine gQ_split (fun hq => ?_) (fun hq => ?_)) <;> (try simp only [Bool.not_true, Bool.not_false] at hq) <;> simp (disch := omega) only [go_sem, undef, H.cs, *])
    | ((with_reducible refine condB_split (fun hq => ?_) (fun hq => ?_)) <;> simp (disch := omega) only [go_sem, undef, H.cs, *]))
  exact ⟨⟨rfl, H.at 2 rfl⟩, H.fr⟩
theorem RS.num_z {b : List UInt8} {s : RS} (h : ¬ (s.num b).2.wr = 0) : (s.num b).1 = 0 := by
  unfold RS.num at *
  split
  · rfl
  · rename_i h0
    rw [if_neg h0] at h
    cases hn : numR (b.drop s.pos) 0 0 with
    | inl e => rfl
    | inr p => rw [hn] at h; simp only [numE] at h; exact absurd h (by simpa using h0)
set_option maxHeartbeats 2000000 in
theorem ref15_getCommand_s (h : (rdrA t rb a c b s).p m) : MC Try.prog n_ref15_getCommand [lpp rb] m fun v M => (v = (getCmdR b s).1.v ∧ (rdrA t rb a c b (getCmdR b s).2).p M) ∧ Fr m M [rb] := by
  refine ref15_getCommand_go (by simp [Try.f33]) ?_
  have H := Hq.one h
  simp (disch := omega) only [go_sem, undef]
  repeat' (first
    | ((with_reducible refine newQ H fun _ _ f H2 => ?_); clear f; clear H; have H := H2; clear H2; simp (disch := omega) only [go_sem, undef, H.cs, *])
    | ((with_reducible refine wrQ0 H fun _ f H2 => ?_); clear f; clear H; have H := H2; clear H2; simp (disch := omega) only [go_sem, undef, H.cs, *])
    | ((with_reducible refine wrQ1 H fun _ f H2 => ?_); clear f; clear H; have H := H2; clear H2; simp (disch := omega) only [go_sem, undef, H.cs, *])
    | ((with_reducible refine wrQ2 H fun _ f H2 => ?_); clear f; clear H; have H := H2; clear H2; simp (disch := omega) only [go_sem, undef, H.cs, *])
    | ((with_reducible refine wrQ3 H fun _ f H2 => ?_); clear f; clear H; have H := H2; clear H2; simp (disch := omega) only [go_sem, undef, H.cs, *])
    | ((with_reducible refine wrQ4 H fun _ f H2 => ?_); clear f; clear H; have H := H2; clear H2; simp (disch := omega) only [go_sem, undef, H.cs, *])
    | ((with_reducible refine wrQ5 H fun _ f H2 => ?_); clear f; clear H; have H := H2; clear H2; simp (disch := omega) only [go_sem, undef, H.cs, *])
    | ((with_reducible refine stwQ0 H ?hl ?h1 fun _ f H2 => ?_); (case hl => rfl); (case h1 => rfl); clear f; clear H; have H := H2; clear H2; simp (disch := omega) only [go_sem, undef, H.cs, *])
    | ((with_reducible refine stwQ1 H ?hl ?h1 fun _ f H2 => ?_); (case hl => rfl); (case h1 => rfl); clear f; clear H; have H := H2; clear H2; simp (disch := omega) only [go_sem, undef, H.cs, *])
    | ((with_reducible refine stwQ2 H ?hl ?h1 fun _ f H2 => ?_); (case hl => rfl); (case h1 => rfl); clear f; clear H; have H := H2; clear H2; simp (disch := omega) only [go_sem, undef, H.cs, *])
    | ((with_reducible refine stwQ3 H ?hl ?h1 fun _ f H2 => ?_); (case hl => rfl); (case h1 => rfl); clear f; clear H; have H := H2; clear H2; simp (disch := omega) only [go_sem, undef, H.cs, *])
    | ((with_reducible refine stwQ4 H ?hl ?h1 fun _ f H2 => ?_); (case hl => rfl); (case h1 => rfl); clear f; clear H; have H := H2; clear H2; simp (disch := omega) only [go_sem, undef, H.cs, *])
    | ((with_reducible refine stwQ5 H ?hl ?h1 fun _ f H2 => ?_); (case hl => rfl); (case h1 => rfl); clear f; clear H; have H := H2; clear H2; simp (disch := omega) only [go_sem, undef, H.cs, *])
    | ((with_reducible refine stQ0 H ?hl ?h1 fun _ f H2 => ?_); (case hl => exact Nat.le_of_ble_eq_true rfl); (case h1 => rfl); clear f; (simp only [go_sem] at H2); clear H; have H := H2; clear H2; simp (disch := omega) only [go_sem, undef, H.cs, *])
    | ((with_reducible refine stQ1 H ?hl ?h1 fun _ f H2 => ?_); (case hl => exact Nat.le_of_ble_eq_true rfl); (case h1 => rfl); clear f; (simp only [go_sem] at H2); clear H; have H := H2; clear H2; simp (disch := omega) only [go_sem, undef, H.cs, *])
    | ((with_reducible refine stQ2 H ?hl ?h1 fun _ f H2 => ?_); (case hl => exact Nat.le_of_ble_eq_true rfl); (case h1 => rfl); clear f; (simp only [go_sem] at H2); clear H; have H := H2; clear H2; simp (disch := omega) only [go_sem, undef, H.cs, *])
    | ((with_reducible refine stQ3 H ?hl ?h1 fun _ f H2 => ?_); (case hl => exact Nat.le_of_ble_eq_true rfl); (case h1 => rfl); clear f; (simp only [go_sem] at H2); clear H; have H := H2; clear H2; simp (disch := omega) only [go_sem, undef, H.cs, *])
    | ((with_reducible refine tS0 H (fun h => ref1_Num_s h) fun _ f H2 => ?_); clear f; clear H; have H := H2; clear H2; simp (disch := omega) only [go_sem, undef, H.cs, *])
    | ((with_reducible refine tS1 H (fun h => ref1_Num_s h) fun _ f H2 => ?_); clear f; clear H; have H := H2; clear H2; simp (disch := omega) only [go_sem, undef, H.cs, *])
    | ((with_reducible refine tS2 H (fun h => ref1_Num_s h) fun _ f H2 => ?_); clear f; clear H; have H := H2; clear H2; simp (disch := omega) only [go_sem, undef, H.cs, *])
    | ((with_reducible refine tS3 H (fun h => ref1_Num_s h) fun _ f H2 => ?_); clear f; clear H; have H := H2; clear H2; simp (disch := omega) only [go_sem, undef, H.cs, *])
    | ((with_reducible refine tS4 H (fun h => ref1_Num_s h) fun _ f H2 => ?_); clear f; clear H; have H := H2; clear H2; simp (disch := omega) only [go_sem, undef, H.cs, *])
    | ((with_reducible refine tS0 H (fun h => ref1_Text_s h _ (by omega)) fun _ f H2 => ?_); clear f; clear H; have H := H2; clear H2; simp (disch := omega) only [go_sem, undef, H.cs, *])
    | ((with_reducible refine tS1 H (fun h => ref1_Text_s h _ (by omega)) fun _ f H2 => ?_); clear f; clear H; have H := H2; clear H2; simp (disch := omega) only [go_sem, undef, H.cs, *])
    | ((with_reducible refine tS2 H (fun h => ref1_Text_s h _ (by omega)) fun _ f H2 => ?_); clear f; clear H; have H := H2; clear H2; simp (disch := omega) only [go_sem, undef, H.cs, *])
    | ((with_reducible refine tS3 H (fun h => ref1_Text_s h _ (by omega)) fun _ f H2 => ?_); clear f; clear H; have H := H2; clear H2; simp (disch := omega) only [go_sem, undef, H.cs, *])
    | ((with_reducible refine tS4 H (fun h => ref1_Text_s h _ (by omega)) fun _ f H2 => ?_); clear f; clear H; have H := H2; clear H2; simp (disch := omega) only [go_sem, undef, H.cs, *])
    | ((with_reducible refine callQ H (ref1_Right_s _ _) fun _ f H2 => ?_); clear f; clear H; have H := H2; clear H2; simp (disch := omega) only [go_sem, undef, H.cs, *])
    | ((with_reducible refine wr_err0 H fun _ f H2 => ?_); clear f; clear H; have H := H2; clear H2; simp (disch := omega) only [go_sem, undef, H.cs, *])
    | ((with_reducible refine wr_err1 H fun _ f H2 => ?_); clear f; clear H; have H := H2; clear H2; simp (disch := omega) only [go_sem, undef, H.cs, *])
    | ((with_reducible refine wr_err2 H fun _ f H2 => ?_); clear f; clear H; have H := H2; clear H2; simp (disch := omega) only [go_sem, undef, H.cs, *])
    | ((with_reducible refine wr_err3 H fun _ f H2 => ?_); clear f; clear H; have H := H2; clear H2; simp (disch := omega) only [go_sem, undef, H.cs, *])
    | ((with_reducible refine wr_err4 H fun _ f H2 => ?_); clear f; clear H; have H := H2; clear H2; simp (disch := omega) only [go_sem, undef, H.cs, *])
    | ((with_reducible refine gQ_split (fun hq => ?_) (fun hq => ?_)) <;> (try simp only [Bool.not_true, Bool.not_false] at hq) <;> simp (disch := omega) only [go_sem, undef, H.cs, *])
    | ((with_reducible refine condB_split (fun hq => ?_) (fun hq => ?_)) <;> simp (disch := omega) only [go_sem, undef, H.cs, *]))
  all_goals (have hA := H.at 2 rfl; have F := H.fr; clear H h; refine post_intro ⟨?_, F⟩; clear F)
  all_goals (try simp only [decide_eq_true_eq, decide_eq_false_iff_not] at *)
  all_goals first
    | (exfalso; omega)
    | (exfalso; simp_all; done)
    | (simp_all [getCmdR, getCmd0, getCmdT, RS.two, RS.chk, RS.bad, RS.num_z]; done)
theorem ref1_RightAttr_b (a : Att) (m : Mem) : MC Try.prog n_ref1_RightAttr [a.v] m fun v m' => v = .bool a.ok ∧ Fr m m' [] := ref1_RightAttr_s a m
theorem ref15_getAttr_s (h : (rdrA t rb a c b s).p m) : MC Try.prog n_ref15_getAttr [lpp rb] m fun v M => (v = (getAttR b s).1.v ∧ (rdrA t rb a c b (getAttR b s).2).p M) ∧ Fr m M [rb] := by
  refine ref15_getAttr_go (by simp [Try.f33]) ?_
  have H := Hq.one h
  simp (disch := omega) only [go_sem, undef]
  refine newQ H fun b2 _ _ H => ?_
  simp (disch := omega) only [go_sem, undef]
  refine tS1 H (fun h => ref1_Num_s h) fun _ _ H => ?_
  simp (disch := omega) only [go_sem, undef]
  refine newQ H fun b3 _ _ H => ?_
  simp (disch := omega) only [go_sem, undef]
  refine stwQ0 H rfl rfl fun _ _ H => ?_
  simp (disch := omega) only [go_sem, undef]
  refine loopQ_intro (fun n E m' => ∃ k, k ≤ 7 ∧ n = 7 - k ∧ E = [(0, lpp rb), (2, .pointer (some ⟨b2, 0, none⟩)), (3, .pointer (some ⟨b3, 0, none⟩)), (4, .int .i64 (k : Nat))] ∧
    Hq m m' [rb] [cellA b3 (.cells (Att.mk (s.num b).1 (depsN b (s.num b).2 k).1).cs.toArray T_api_Attr (0, 0)), cellA b2 (.cells Att.zero.cs.toArray T_api_Attr (0, 0)), rdrA t rb a c b (depsN b (s.num b).2 k).2]) 7 rfl ⟨0, by omega, rfl, rfl, H⟩ ?_
  clear H
  rintro n E m' ⟨k, hk, rfl, rfl, H⟩
  simp (disch := omega) only [go_sem, undef]
  refine condB_dec (fun h1 => ?_) (fun h1 => ?_)
  · have h2 : k < 7 := by omega
    simp (disch := omega) only [go_sem, undef]
    refine tS2 H (fun h => ref1_Num_s h) fun _ _ H => ?_
    simp (disch := omega) only [go_sem, undef, H.cs]
    refine wrQ0 H fun _ _ H => ?_
    simp (disch := omega) only [go_sem, undef]
    exact handN_intro (7 - (k + 1)) (by omega) ⟨k + 1, by omega, rfl, rfl, H⟩
  · have h2 : k = 7 := by omega
    subst h2
    simp (disch := omega) only [go_sem, undef, H.cs]
    repeat' (first
      | ((with_reducible refine newQ H fun _ _ f H2 => ?_); clear f; clear H; have H := H2; clear H2; simp (disch := omega) only [go_sem, undef, H.cs, *])
      | ((with_reducible refine wrQ0 H fun _ f H2 => ?_); clear f; clear H; have H := H2; clear H2; simp (disch := omega) only [go_sem, undef, H.cs, *])
      | ((with_reducible refine wrQ1 H fun _ f H2 => ?_); clear f; clear H; have H := H2; clear H2; simp (disch := omega) only [go_sem, undef, H.cs, *])
      | ((with_reducible refine wrQ2 H fun _ f H2 => ?_); clear f; clear H; have H := H2; clear H2; simp (disch := omega) only [go_sem, undef, H.cs, *])
      | ((with_reducible refine wrQ3 H fun _ f H2 => ?_); clear f; clear H; have H := H2; clear H2; simp (disch := omega) only [go_sem, undef, H.cs, *])
      | ((with_reducible refine wrQ4 H fun _ f H2 => ?_); clear f; clear H; have H := H2; clear H2; simp (disch := omega) only [go_sem, undef, H.cs, *])
      | ((with_reducible refine wrQ5 H fun _ f H2 => ?_); clear f; clear H; have H := H2; clear H2; simp (disch := omega) only [go_sem, undef, H.cs, *])
      | ((with_reducible refine stwQ0 H ?hl ?h1 fun _ f H2 => ?_); (case hl => rfl); (case h1 => rfl); clear f; clear H; have H := H2; clear H2; simp (disch := omega) only [go_sem, undef, H.cs, *])
      | ((with_reducible refine stwQ1 H ?hl ?h1 fun _ f H2 => ?_); (case hl => rfl); (case h1 => rfl); clear f; clear H; have H := H2; clear H2; simp (disch := omega) only [go_sem, undef, H.cs, *])
      | ((with_reducible refine stwQ2 H ?hl ?h1 fun _ f H2 => ?_); (case hl => rfl); (case h1 => rfl); clear f; clear H; have H := H2; clear H2; simp (disch := omega) only [go_sem, undef, H.cs, *])
      | ((with_reducible refine stwQ3 H ?hl ?h1 fun _ f H2 => ?_); (case hl => rfl); (case h1 => rfl); clear f; clear H; have H := H2; clear H2; simp (disch := omega) only [go_sem, undef, H.cs, *])
      | ((with_reducible refine stwQ4 H ?hl ?h1 fun _ f H2 => ?_); (case hl => rfl); (case h1 => rfl); clear f; clear H; have H := H2; clear H2; simp (disch := omega) only [go_sem, undef, H.cs, *])
      | ((with_reducible refine stwQ5 H ?hl ?h1 fun _ f H2 => ?_); (case hl => rfl); (case h1 => rfl); clear f; clear H; have H := H2; clear H2; simp (disch := omega) only [go_sem, undef, H.cs, *])
      | ((with_reducible refine stQ0 H ?hl ?h1 fun _ f H2 => ?_); (case hl => exact Nat.le_of_ble_eq_true rfl); (case h1 => rfl); clear f; (simp only [go_sem] at H2); clear H; have H := H2; clear H2; simp (disch := omega) only [go_sem, undef, H.cs, *])
      | ((with_reducible refine stQ1 H ?hl ?h1 fun _ f H2 => ?_); (case hl => exact Nat.le_of_ble_eq_true rfl); (case h1 => rfl); clear f; (simp only [go_sem] at H2); clear H; have H := H2; clear H2; simp (disch := omega) only [go_sem, undef, H.cs, *])
      | ((with_reducible refine stQ2 H ?hl ?h1 fun _ f H2 => ?_); (case hl => exact Nat.le_of_ble_eq_true rfl); (case h1 => rfl); clear f; (simp only [go_sem] at H2); clear H; have H := H2; clear H2; simp (disch := omega) only [go_sem, undef, H.cs, *])
      | ((with_reducible refine stQ3 H ?hl ?h1 fun _ f H2 => ?_); (case hl => exact Nat.le_of_ble_eq_true rfl); (case h1 => rfl); clear f; (simp only [go_sem] at H2); clear H; have H := H2; clear H2; simp (disch := omega) only [go_sem, undef, H.cs, *])
      | ((with_reducible refine callQ H (ref1_RightAttr_b _ _) fun _ f H2 => ?_); clear f; clear H; have H := H2; clear H2; simp (disch := omega) only [go_sem, undef, H.cs, *])
      | ((with_reducible refine wr_err0 H fun _ f H2 => ?_); clear f; clear H; have H := H2; clear H2; simp (disch := omega) only [go_sem, undef, H.cs, *])
      | ((with_reducible refine wr_err1 H fun _ f H2 => ?_); clear f; clear H; have H := H2; clear H2; simp (disch := omega) only [go_sem, undef, H.cs, *])
      | ((with_reducible refine wr_err2 H fun _ f H2 => ?_); clear f; clear H; have H := H2; clear H2; simp (disch := omega) only [go_sem, undef, H.cs, *])
      | ((with_reducible refine wr_err3 H fun _ f H2 => ?_); clear f; clear H; have H := H2; clear H2; simp (disch := omega) only [go_sem, undef, H.cs, *])
      | ((with_reducible refine wr_err4 H fun _ f H2 => ?_); clear f; clear H; have H := H2; clear H2; simp (disch := omega) only [go_sem, undef, H.cs, *])
      | ((with_reducible refine gQ_split (fun hq => ?_) (fun hq => ?_)) <;> (try simp only [Bool.not_true, Bool.not_false] at hq) <;> simp (disch := omega) only [go_sem, undef, H.cs, *])
      | ((with_reducible refine condB_split (fun hq => ?_) (fun hq => ?_)) <;> simp (disch := omega) only [go_sem, undef, H.cs, *]))
    all_goals (have hA := H.at 2 rfl; have F := H.fr; clear H h; refine post_intro ⟨?_, F⟩; clear F)
    all_goals (try simp only [decide_eq_true_eq, decide_eq_false_iff_not] at *)
    all_goals first
      | (exfalso; omega)
      | (exfalso; simp_all; done)
      | (simp_all [getAttR, getAtt0, RS.chk, RS.bad]; done)
set_option maxHeartbeats 2000000 in
theorem ref15_GetCell_s (h : (rdrA t rb a c b s).p m) : MC Try.prog n_ref15_GetCell [lpp rb] m fun v M => (v = (getCelR b s).1.v ∧ (rdrA t rb a c b (getCelR b s).2).p M) ∧ Fr m M [rb] := by
  refine ref15_GetCell_go (by simp [Try.f33]) ?_
  have H := Hq.one h
  simp (disch := omega) only [go_sem, undef]
  repeat' (first
    | ((with_reducible refine newQ H fun _ _ f H2 => ?_); clear f; clear H; have H := H2; clear H2; simp (disch := omega) only [go_sem, undef, H.cs, *])
    | ((with_reducible refine wrQ0 H fun _ f H2 => ?_); clear f; clear H; have H := H2; clear H2; simp (disch := omega) only [go_sem, undef, H.cs, *])
    | ((with_reducible refine wrQ1 H fun _ f H2 => ?_); clear f; clear H; have H := H2; clear H2; simp (disch := omega) only [go_sem, undef, H.cs, *])
    | ((with_reducible refine wrQ2 H fun _ f H2 => ?_); clear f; clear H; have H := H2; clear H2; simp (disch := omega) only [go_sem, undef, H.cs, *])
    | ((with_reducible refine wrQ3 H fun _ f H2 => ?_); clear f; clear H; have H := H2; clear H2; simp (disch := omega) only [go_sem, undef, H.cs, *])
    | ((with_reducible refine wrQ4 H fun _ f H2 => ?_); clear f; clear H; have H := H2; clear H2; simp (disch := omega) only [go_sem, undef, H.cs, *])
    | ((with_reducible refine wrQ5 H fun _ f H2 => ?_); clear f; clear H; have H := H2; clear H2; simp (disch := omega) only [go_sem, undef, H.cs, *])
    | ((with_reducible refine stwQ0 H ?hl ?h1 fun _ f H2 => ?_); (case hl => rfl); (case h1 => rfl); clear f; clear H; have H := H2; clear H2; simp (disch := omega) only [go_sem, undef, H.cs, *])
    | ((with_reducible refine stwQ1 H ?hl ?h1 fun _ f H2 => ?_); (case hl => rfl); (case h1 => rfl); clear f; clear H; have H := H2; clear H2; simp (disch := omega) only [go_sem, undef, H.cs, *])
    | ((with_reducible refine stwQ2 H ?hl ?h1 fun _ f H2 => ?_); (case hl => rfl); (case h1 => rfl); clear f; clear H; have H := H2; clear H2; simp (disch := omega) only [go_sem, undef, H.cs, *])
    | ((with_reducible refine stwQ3 H ?hl ?h1 fun _ f H2 => ?_); (case hl => rfl); (case h1 => rfl); clear f; clear H; have H := H2; clear H2; simp (disch := omega) only [go_sem, undef, H.cs, *])
    | ((with_reducible refine stwQ4 H ?hl ?h1 fun _ f H2 => ?_); (case hl => rfl); (case h1 => rfl); clear f; clear H; have H := H2; clear H2; simp (disch := omega) only [go_sem, undef, H.cs, *])
    | ((with_reducible refine stwQ5 H ?hl ?h1 fun _ f H2 => ?_); (case hl => rfl); (case h1 => rfl); clear f; clear H; have H := H2; clear H2; simp (disch := omega) only [go_sem, undef, H.cs, *])
    | ((with_reducible refine stQ0 H ?hl ?h1 fun _ f H2 => ?_); (case hl => exact Nat.le_of_ble_eq_true rfl); (case h1 => rfl); clear f; (simp only [go_sem] at H2); clear H; have H := H2; clear H2; simp (disch := omega) only [go_sem, undef, H.cs, *])
    | ((with_reducible refine stQ1 H ?hl ?h1 fun _ f H2 => ?_); (case hl => exact Nat.le_of_ble_eq_true rfl); (case h1 => rfl); clear f; (simp only [go_sem] at H2); clear H; have H := H2; clear H2; simp (disch := omega) only [go_sem, undef, H.cs, *])
    | ((with_reducible refine stQ2 H ?hl ?h1 fun _ f H2 => ?_); (case hl => exact Nat.le_of_ble_eq_true rfl); (case h1 => rfl); clear f; (simp only [go_sem] at H2); clear H; have H := H2; clear H2; simp (disch := omega) only [go_sem, undef, H.cs, *])
    | ((with_reducible refine stQ3 H ?hl ?h1 fun _ f H2 => ?_); (case hl => exact Nat.le_of_ble_eq_true rfl); (case h1 => rfl); clear f; (simp only [go_sem] at H2); clear H; have H := H2; clear H2; simp (disch := omega) only [go_sem, undef, H.cs, *])
    | ((with_reducible refine tS0 H (fun h => ref1_Num_s h) fun _ f H2 => ?_); clear f; clear H; have H := H2; clear H2; simp (disch := omega) only [go_sem, undef, H.cs, *])
    | ((with_reducible refine tS1 H (fun h => ref1_Num_s h) fun _ f H2 => ?_); clear f; clear H; have H := H2; clear H2; simp (disch := omega) only [go_sem, undef, H.cs, *])
    | ((with_reducible refine tS2 H (fun h => ref1_Num_s h) fun _ f H2 => ?_); clear f; clear H; have H := H2; clear H2; simp (disch := omega) only [go_sem, undef, H.cs, *])
    | ((with_reducible refine tS3 H (fun h => ref1_Num_s h) fun _ f H2 => ?_); clear f; clear H; have H := H2; clear H2; simp (disch := omega) only [go_sem, undef, H.cs, *])
    | ((with_reducible refine tS4 H (fun h => ref1_Num_s h) fun _ f H2 => ?_); clear f; clear H; have H := H2; clear H2; simp (disch := omega) only [go_sem, undef, H.cs, *])
    | ((with_reducible refine tS0 H (fun h => ref15_getBallot_s h) fun _ f H2 => ?_); clear f; clear H; have H := H2; clear H2; simp (disch := omega) only [go_sem, undef, H.cs, *])
    | ((with_reducible refine tS1 H (fun h => ref15_getBallot_s h) fun _ f H2 => ?_); clear f; clear H; have H := H2; clear H2; simp (disch := omega) only [go_sem, undef, H.cs, *])
    | ((with_reducible refine tS2 H (fun h => ref15_getBallot_s h) fun _ f H2 => ?_); clear f; clear H; have H := H2; clear H2; simp (disch := omega) only [go_sem, undef, H.cs, *])
    | ((with_reducible refine tS3 H (fun h => ref15_getBallot_s h) fun _ f H2 => ?_); clear f; clear H; have H := H2; clear H2; simp (disch := omega) only [go_sem, undef, H.cs, *])
    | ((with_reducible refine tS4 H (fun h => ref15_getBallot_s h) fun _ f H2 => ?_); clear f; clear H; have H := H2; clear H2; simp (disch := omega) only [go_sem, undef, H.cs, *])
    | ((with_reducible refine tS0 H (fun h => ref15_getCommand_s h) fun _ f H2 => ?_); clear f; clear H; have H := H2; clear H2; simp (disch := omega) only [go_sem, undef, H.cs, *])
    | ((with_reducible refine tS1 H (fun h => ref15_getCommand_s h) fun _ f H2 => ?_); clear f; clear H; have H := H2; clear H2; simp (disch := omega) only [go_sem, undef, H.cs, *])
    | ((with_reducible refine tS2 H (fun h => ref15_getCommand_s h) fun _ f H2 => ?_); clear f; clear H; have H := H2; clear H2; simp (disch := omega) only [go_sem, undef, H.cs, *])
    | ((with_reducible refine tS3 H (fun h => ref15_getCommand_s h) fun _ f H2 => ?_); clear f; clear H; have H := H2; clear H2; simp (disch := omega) only [go_sem, undef, H.cs, *])
    | ((with_reducible refine tS4 H (fun h => ref15_getCommand_s h) fun _ f H2 => ?_); clear f; clear H; have H := H2; clear H2; simp (disch := omega) only [go_sem, undef, H.cs, *])
    | ((with_reducible refine tS0 H (fun h => ref15_getAttr_s h) fun _ f H2 => ?_); clear f; clear H; have H := H2; clear H2; simp (disch := omega) only [go_sem, undef, H.cs, *])
    | ((with_reducible refine tS1 H (fun h => ref15_getAttr_s h) fun _ f H2 => ?_); clear f; clear H; have H := H2; clear H2; simp (disch := omega) only [go_sem, undef, H.cs, *])
    | ((with_reducible refine tS2 H (fun h => ref15_getAttr_s h) fun _ f H2 => ?_); clear f; clear H; have H := H2; clear H2; simp (disch := omega) only [go_sem, undef, H.cs, *])
    | ((with_reducible refine tS3 H (fun h => ref15_getAttr_s h) fun _ f H2 => ?_); clear f; clear H; have H := H2; clear H2; simp (disch := omega) only [go_sem, undef, H.cs, *])
    | ((with_reducible refine tS4 H (fun h => ref15_getAttr_s h) fun _ f H2 => ?_); clear f; clear H; have H := H2; clear H2; simp (disch := omega) only [go_sem, undef, H.cs, *])
    | ((with_reducible refine tS0 H (fun h => ref1_Flag_s h) fun _ f H2 => ?_); clear f; clear H; have H := H2; clear H2; simp (disch := omega) only [go_sem, undef, H.cs, *])
    | ((with_reducible refine tS1 H (fun h => ref1_Flag_s h) fun _ f H2 => ?_); clear f; clear H; have H := H2; clear H2; simp (disch := omega) only [go_sem, undef, H.cs, *])
    | ((with_reducible refine tS2 H (fun h => ref1_Flag_s h) fun _ f H2 => ?_); clear f; clear H; have H := H2; clear H2; simp (disch := omega) only [go_sem, undef, H.cs, *])
    | ((with_reducible refine tS3 H (fun h => ref1_Flag_s h) fun _ f H2 => ?_); clear f; clear H; have H := H2; clear H2; simp (disch := omega) only [go_sem, undef, H.cs, *])
    | ((with_reducible refine tS4 H (fun h => ref1_Flag_s h) fun _ f H2 => ?_); clear f; clear H; have H := H2; clear H2; simp (disch := omega) only [go_sem, undef, H.cs, *])
    | ((with_reducible refine callQ H (ref15_RightCell_s _ _) fun _ f H2 => ?_); clear f; clear H; have H := H2; clear H2; simp (disch := omega) only [go_sem, undef, H.cs, *])
    | ((with_reducible refine wr_err0 H fun _ f H2 => ?_); clear f; clear H; have H := H2; clear H2; simp (disch := omega) only [go_sem, undef, H.cs, *])
    | ((with_reducible refine wr_err1 H fun _ f H2 => ?_); clear f; clear H; have H := H2; clear H2; simp (disch := omega) only [go_sem, undef, H.cs, *])
    | ((with_reducible refine wr_err2 H fun _ f H2 => ?_); clear f; clear H; have H := H2; clear H2; simp (disch := omega) only [go_sem, undef, H.cs, *])
    | ((with_reducible refine wr_err3 H fun _ f H2 => ?_); clear f; clear H; have H := H2; clear H2; simp (disch := omega) only [go_sem, undef, H.cs, *])
    | ((with_reducible refine wr_err4 H fun _ f H2 => ?_); clear f; clear H; have H := H2; clear H2; simp (disch := omega) only [go_sem, undef, H.cs, *])
    | ((with_reducible refine gQ_split (fun hq => ?_) (fun hq => ?_)) <;> (try simp only [Bool.not_true, Bool.not_false] at hq) <;> simp (disch := omega) only [go_sem, undef, H.cs, *])
    | ((with_reducible refine condB_split (fun hq => ?_) (fun hq => ?_)) <;> simp (disch := omega) only [go_sem, undef, H.cs, *]))
  all_goals (have hA := H.at 2 rfl; have F := H.fr; clear H h; refine post_intro ⟨?_, F⟩; clear F)
  all_goals (try simp only [decide_eq_true_eq, decide_eq_false_iff_not] at *)
  all_goals first
    | (exfalso; omega)
    | (exfalso; simp_all; done)
    | (simp_all [getCelR, celH, celR, endCel, RS.chk, RS.bad]; done)
theorem Hq.addR {A : As} {M : Mem} (H : Hq m0 m S L) (hp : A.p M) (f : Fr m M []) (hw : ∀ b ∈ A.wp, m b = none) (hf : ∀ b ∈ A.fp, m b = none ∨ ∀ B ∈ L, b ∉ B.wp) : Hq m0 M S (A :: L) :=
  ⟨⟨hp, (H.keep f).hs⟩, H.fr.trans0 f, List.pairwise_cons.2 ⟨fun B hB => ⟨fun b hb => H.new1 (hw b hb) B hB, fun b hb ha => (hf b ha).elim (fun h => H.new1 h B hB (B.sub b hb)) (fun h => h B hB hb)⟩, H.dj⟩, fun C hC => by
    rcases List.mem_cons.1 hC with rfl | hC
    · exact fun b hb => H.new0 (hw b hb)
    · exact H.nw C hC⟩
theorem ref1_Read_s {a : Option Addr} {n c : Nat} : MC Try.prog n_ref1_Read [.slice a n c] m fun u M => (∃ rb, u = lpp rb ∧ m rb = none ∧ M rb = some (.cells [Value.slice a n c, .int .i64 0, .int .i64 0].toArray T_ref1_Reader (0, 0))) ∧ Fr m M [] := by
  refine ref1_Read_go (by simp [Try.f33]) ?_
  have H := Hq.refl m []
  simp (disch := omega) only [go_sem, undef]
  refine newQ H fun rb M f H => ?_
  simp (disch := omega) only [go_sem, undef]
  exact ⟨⟨rb, rfl, (H.done.2.2 rb (by simp)).resolve_left (by simp), H.cs.1⟩, H.fr⟩
theorem ref15_Replay_s {v : Value} {b : List UInt8} (hv : RdB m v b) (hb : b.length ≤ 1099511627776) : MC Try.prog n_ref15_Replay [v] m fun u M => u = .tuple #[pv (replay b).1, (replay b).2.1.v, .int .i64 (replay b).2.2] ∧ Fr m M [] := by
  obtain ⟨a, c, rfl⟩ := hv.form
  have hrep : replay b = endRec b ((RS.mk 0 0).two b).1 (getCelR b ((RS.mk 0 0).two b).2).1 (getCelR b ((RS.mk 0 0).two b).2).2 := by
    unfold replay; rw [getCel_eq]
  refine ref15_Replay_go (by simp [Try.f33]) ?_
  have H := Hq.refl m []
  simp (disch := omega) only [go_sem, undef]
  refine newQ H fun b1 _ f1 H => ?_
  simp (disch := omega) only [go_sem, undef]
  refine newQ H fun b2 M0 f2 H => ?_
  simp (disch := omega) only [go_sem, undef]
  refine call_with ref1_Read_s ?_
  rintro u M ⟨⟨rb, rfl, hn, hM⟩, f⟩
  have hv0 : RdB M0 (.slice a b.length c) b := RdS.frame hv H.fr
  have hvM : RdB M (.slice a b.length c) b := RdS.frame hv0 f
  have hvt := RdB.there hv
  have H := H.addR (A := rdrA T_ref1_Reader rb a c b ⟨0, 0⟩) ⟨hM, hvM, fun h => RdB.there hv0 rb h hn, RdB.there hvM, Nat.zero_le _, hb⟩ f (by intro x hx; simp [rdrA] at hx; subst hx; exact hn) (by
    intro x hx
    rcases List.mem_cons.1 hx with rfl | hx
    · exact .inl hn
    · refine .inr fun B hB hw => ?_
      rcases H.nw B hB x hw with h0 | h0
      · exact hvt x hx h0
      · cases h0)
  simp (disch := omega) only [go_sem, undef]
  repeat' (first
    | ((with_reducible refine newQ H fun _ _ f H2 => ?_); clear f; clear H; have H := H2; clear H2; simp (disch := omega) only [go_sem, undef, H.cs, *])
    | ((with_reducible refine wrQ0 H fun _ f H2 => ?_); clear f; clear H; have H := H2; clear H2; simp (disch := omega) only [go_sem, undef, H.cs, *])
    | ((with_reducible refine wrQ1 H fun _ f H2 => ?_); clear f; clear H; have H := H2; clear H2; simp (disch := omega) only [go_sem, undef, H.cs, *])
    | ((with_reducible refine wrQ2 H fun _ f H2 => ?_); clear f; clear H; have H := H2; clear H2; simp (disch := omega) only [go_sem, undef, H.cs, *])
    | ((with_reducible refine wrQ3 H fun _ f H2 => ?_); clear f; clear H; have H := H2; clear H2; simp (disch := omega) only [go_sem, undef, H.cs, *])
    | ((with_reducible refine wrQ4 H fun _ f H2 => ?_); clear f; clear H; have H := H2; clear H2; simp (disch := omega) only [go_sem, undef, H.cs, *])
    | ((with_reducible refine wrQ5 H fun _ f H2 => ?_); clear f; clear H; have H := H2; clear H2; simp (disch := omega) only [go_sem, undef, H.cs, *])
    | ((with_reducible refine stwQ0 H ?hl ?h1 fun _ f H2 => ?_); (case hl => rfl); (case h1 => rfl); clear f; clear H; have H := H2; clear H2; simp (disch := omega) only [go_sem, undef, H.cs, *])
    | ((with_reducible refine stwQ1 H ?hl ?h1 fun _ f H2 => ?_); (case hl => rfl); (case h1 => rfl); clear f; clear H; have H := H2; clear H2; simp (disch := omega) only [go_sem, undef, H.cs, *])
    | ((with_reducible refine stwQ2 H ?hl ?h1 fun _ f H2 => ?_); (case hl => rfl); (case h1 => rfl); clear f; clear H; have H := H2; clear H2; simp (disch := omega) only [go_sem, undef, H.cs, *])
    | ((with_reducible refine stwQ3 H ?hl ?h1 fun _ f H2 => ?_); (case hl => rfl); (case h1 => rfl); clear f; clear H; have H := H2; clear H2; simp (disch := omega) only [go_sem, undef, H.cs, *])
    | ((with_reducible refine stwQ4 H ?hl ?h1 fun _ f H2 => ?_); (case hl => rfl); (case h1 => rfl); clear f; clear H; have H := H2; clear H2; simp (disch := omega) only [go_sem, undef, H.cs, *])
    | ((with_reducible refine stwQ5 H ?hl ?h1 fun _ f H2 => ?_); (case hl => rfl); (case h1 => rfl); clear f; clear H; have H := H2; clear H2; simp (disch := omega) only [go_sem, undef, H.cs, *])
    | ((with_reducible refine stQ0 H ?hl ?h1 fun _ f H2 => ?_); (case hl => exact Nat.le_of_ble_eq_true rfl); (case h1 => rfl); clear f; (simp only [go_sem] at H2); clear H; have H := H2; clear H2; simp (disch := omega) only [go_sem, undef, H.cs, *])
    | ((with_reducible refine stQ1 H ?hl ?h1 fun _ f H2 => ?_); (case hl => exact Nat.le_of_ble_eq_true rfl); (case h1 => rfl); clear f; (simp only [go_sem] at H2); clear H; have H := H2; clear H2; simp (disch := omega) only [go_sem, undef, H.cs, *])
    | ((with_reducible refine stQ2 H ?hl ?h1 fun _ f H2 => ?_); (case hl => exact Nat.le_of_ble_eq_true rfl); (case h1 => rfl); clear f; (simp only [go_sem] at H2); clear H; have H := H2; clear H2; simp (disch := omega) only [go_sem, undef, H.cs, *])
    | ((with_reducible refine stQ3 H ?hl ?h1 fun _ f H2 => ?_); (case hl => exact Nat.le_of_ble_eq_true rfl); (case h1 => rfl); clear f; (simp only [go_sem] at H2); clear H; have H := H2; clear H2; simp (disch := omega) only [go_sem, undef, H.cs, *])
    | ((with_reducible refine tS0 H (fun h => ref15_getInst_s h) fun _ f H2 => ?_); clear f; clear H; have H := H2; clear H2; simp (disch := omega) only [go_sem, undef, H.cs, *])
    | ((with_reducible refine tS1 H (fun h => ref15_getInst_s h) fun _ f H2 => ?_); clear f; clear H; have H := H2; clear H2; simp (disch := omega) only [go_sem, undef, H.cs, *])
    | ((with_reducible refine tS2 H (fun h => ref15_getInst_s h) fun _ f H2 => ?_); clear f; clear H; have H := H2; clear H2; simp (disch := omega) only [go_sem, undef, H.cs, *])
    | ((with_reducible refine tS3 H (fun h => ref15_getInst_s h) fun _ f H2 => ?_); clear f; clear H; have H := H2; clear H2; simp (disch := omega) only [go_sem, undef, H.cs, *])
    | ((with_reducible refine tS4 H (fun h => ref15_getInst_s h) fun _ f H2 => ?_); clear f; clear H; have H := H2; clear H2; simp (disch := omega) only [go_sem, undef, H.cs, *])
    | ((with_reducible refine tS0 H (fun h => ref15_GetCell_s h) fun _ f H2 => ?_); clear f; clear H; have H := H2; clear H2; simp (disch := omega) only [go_sem, undef, H.cs, *])
    | ((with_reducible refine tS1 H (fun h => ref15_GetCell_s h) fun _ f H2 => ?_); clear f; clear H; have H := H2; clear H2; simp (disch := omega) only [go_sem, undef, H.cs, *])
    | ((with_reducible refine tS2 H (fun h => ref15_GetCell_s h) fun _ f H2 => ?_); clear f; clear H; have H := H2; clear H2; simp (disch := omega) only [go_sem, undef, H.cs, *])
    | ((with_reducible refine tS3 H (fun h => ref15_GetCell_s h) fun _ f H2 => ?_); clear f; clear H; have H := H2; clear H2; simp (disch := omega) only [go_sem, undef, H.cs, *])
    | ((with_reducible refine tS4 H (fun h => ref15_GetCell_s h) fun _ f H2 => ?_); clear f; clear H; have H := H2; clear H2; simp (disch := omega) only [go_sem, undef, H.cs, *])
    | ((with_reducible refine tS0 H (fun h => ref1_End_s h) fun _ f H2 => ?_); clear f; clear H; have H := H2; clear H2; simp (disch := omega) only [go_sem, undef, H.cs, *])
    | ((with_reducible refine tS1 H (fun h => ref1_End_s h) fun _ f H2 => ?_); clear f; clear H; have H := H2; clear H2; simp (disch := omega) only [go_sem, undef, H.cs, *])
    | ((with_reducible refine tS2 H (fun h => ref1_End_s h) fun _ f H2 => ?_); clear f; clear H; have H := H2; clear H2; simp (disch := omega) only [go_sem, undef, H.cs, *])
    | ((with_reducible refine tS3 H (fun h => ref1_End_s h) fun _ f H2 => ?_); clear f; clear H; have H := H2; clear H2; simp (disch := omega) only [go_sem, undef, H.cs, *])
    | ((with_reducible refine tS4 H (fun h => ref1_End_s h) fun _ f H2 => ?_); clear f; clear H; have H := H2; clear H2; simp (disch := omega) only [go_sem, undef, H.cs, *])
    | ((with_reducible refine callQ H (ref1_RightInst_s _ _) fun _ f H2 => ?_); clear f; clear H; have H := H2; clear H2; simp (disch := omega) only [go_sem, undef, H.cs, *])
    | ((with_reducible refine gQ_split (fun hq => ?_) (fun hq => ?_)) <;> (try simp only [Bool.not_true, Bool.not_false] at hq) <;> simp (disch := omega) only [go_sem, undef, H.cs, *])
    | ((with_reducible refine condB_split (fun hq => ?_) (fun hq => ?_)) <;> simp (disch := omega) only [go_sem, undef, H.cs, *]))
  all_goals (simp only [decide_eq_true_eq, decide_eq_false_iff_not] at *)
  all_goals (have F := H.fr; clear H; refine post_intro ⟨?_, F⟩; clear F)
  · rename_i hw
    rw [show replay b = _ from hrep.trans (endRec_ok hw hq)]
  · rename_i hw
    rw [show replay b = _ from hrep.trans (endRec_no hw hq)]
  · rw [show replay b = _ from hrep.trans (endRec_err hq)]
end Go.Fw
