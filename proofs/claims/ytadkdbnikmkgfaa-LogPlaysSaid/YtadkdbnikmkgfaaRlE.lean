import Derived.Test.YtadkdbnikmkgfaaRlD
set_option linter.unusedSimpArgs false
set_option linter.unusedVariables false
namespace Go.Fw
open Go.Proofs
variable {m m0 M : Mem} {S : List Nat} {L : List As}
theorem dec_may {l r : LogL} (h : Sim l r) (cut : Dp) (k : Int × Int) (c : Cel) : decide (mayS cut r k c) = decide (mayS cut l k c) := decide_eq_decide.2 (h.may cut k c)
set_option maxHeartbeats 2000000 in
theorem law_Plays_s (cut : Dp) {v : Value} {l0 : List Ask} (hv : AskOk m v l0) : MC Try.prog n_law16_LogPlays [cut.v, v] m fun v m' => v = .bool true ∧ Fr m m' [] := by
  obtain ⟨a, c, rfl⟩ := hv.form
  refine law16_LogPlays_go (by simp [Try.f33]) ?_
  have H := Hq.refl m []
  simp (disch := omega) only [go_sem, undef]
  refine newQ H fun b0 M f H => ?_
  simp (disch := omega) only [go_sem, undef, H.cs]
  refine callN H (log_New_q _ _) fun v M A' ⟨lx, rx, e, eA⟩ f H => ?_
  subst e eA
  simp (disch := omega) only [go_sem, undef]
  refine newQ H fun wb M f H => ?_
  have H := (H.nilRow T_api_Cell 21).nilRow T_api_Inst 2
  have H : Hq m M [] [logR wb (.slice none 0 0) (.slice none 0 0) Dp.zero [], logA lx rx (trimD Dp.zero cut) [], cellA b0 (.cells (dv cut).toArray T_api_Deps (0, 0))] := logR_close (upQ2 H)
  simp (disch := omega) only [go_sem, undef, H.cs]
  refine callA0 H (ref15_Trim_s (H.at 0 rfl) (by simp) cut) fun v M A' ⟨e, iv, cv, eA⟩ f H => ?_
  subst e eA
  simp (disch := omega) only [go_sem, undef, Option.isNone_some]
  have hs0 : Sim [] (liveC (trimD Dp.zero cut) []) := ⟨List.Perm.refl _, List.Pairwise.nil⟩
  refine callQ H (law_alike_s (H.at 1 rfl) (H.at 0 rfl) hs0 (by simp [keysC]) (by simp)) fun M f H => ?_
  simp (disch := omega) only [go_sem, undef]
  refine loopQ_intro (fun n E m' => ∃ k ct l r iv cv, k ≤ 60 ∧ n = 60 - k ∧ E = [(1, .slice a l0.length c), (5, lp lx), (6, lpp wb), (7, .int .i64 (k : Nat))] ∧ Sim l r ∧ KeysOk l ∧ List.length l ≤ k ∧
    Hq m m' [] [logR wb iv cv ct r, logA lx rx ct l, cellA b0 (.cells (dv cut).toArray T_api_Deps (0, 0))]) 60 rfl ⟨0, _, [], _, iv, cv, by omega, rfl, rfl, hs0, by simp [keysC], by simp, H⟩ ?_
  clear H f hs0
  rintro n E m' ⟨k, ct, l, r, iv, cv, hk, rfl, rfl, hs, hkk, hlen, H⟩
  have hrl := hs.len
  simp (disch := omega) only [go_sem, undef]
  by_cases h1 : k < l0.length ∧ k < 60
  · obtain ⟨h1, h2⟩ := h1
    refine RdS.elK (RdS.frame hv H.fr) h1 (by decide) fun b1 o1 ak hak hx hE => ?_
    simp (disch := omega) only [go_sem, undef, dec_t, hx, hE.lda0]
    refine newQ H fun b2 M f H => ?_
    simp (disch := omega) only [go_sem, undef]
    refine stwQ0 H (Ask.len _) (Ask.one _) fun M f H => ?_
    simp (disch := omega) only [go_sem, undef, H.cs]
    refine callR H (law_light_s _ _) fun v M ⟨lt, e⟩ f4 H => ?_
    subst e
    simp (disch := omega) only [go_sem, undef]
    cases lt
    · simp (disch := omega) only [go_sem, undef]
      exact handN_intro (60 - (k + 1)) (by omega) ⟨k + 1, ct, l, r, iv, cv, by omega, rfl, rfl, hs, hkk, by omega, H.tail⟩
    · simp (disch := omega) only [go_sem, undef, H.cs]
      by_cases k1 : ak.kind = 1
      · simp (disch := omega) only [go_sem, undef, k1, H.cs]
        refine callS2 (logA lx rx ct (if mayS ct l ak.inst ak.cel then upC ak.inst ak.cel l else l)) H (log_Set_q (H.at 2 rfl) ak.inst ak.cel) rfl rfl fun M f H => ?_
        simp (disch := omega) only [go_sem, undef, H.cs]
        refine callA1 H (ref15_Set_s (H.at 1 rfl) hs.asc (by omega) ak.inst ak.cel) fun v M A' ⟨e, iv2, cv2, eA⟩ f H => ?_
        subst e eA
        have hsim : Sim (if mayS ct l ak.inst ak.cel then upC ak.inst ak.cel l else l) (if mayS ct r ak.inst ak.cel then insS ak.inst ak.cel r else r) := by
          by_cases hm : mayS ct l ak.inst ak.cel
          · rw [if_pos hm, if_pos ((hs.may _ _ _).2 hm)]; exact hs.set _ _
          · rw [if_neg hm, if_neg (fun h => hm ((hs.may _ _ _).1 h))]; exact hs
        have hlen2 : List.length (if mayS ct l ak.inst ak.cel then upC ak.inst ak.cel l else l) ≤ k + 1 := by
          have := upC_len ak.inst ak.cel l
          split <;> omega
        simp (disch := omega) only [go_sem, undef, dec_may hs, bne_self_eq_false]
        refine callQ H (law_alike_s (H.at 2 rfl) (H.at 1 rfl) hsim (keysOk_up hkk) (by omega)) fun M f H => ?_
        simp (disch := omega) only [go_sem, undef]
        exact handN_intro (60 - (k + 1)) (by omega) ⟨k + 1, ct, _, _, iv2, cv2, by omega, rfl, rfl, hsim, keysOk_up hkk, hlen2, H.tail⟩
      · by_cases k2 : ak.kind = 2
        · simp (disch := omega) only [go_sem, undef, k2, H.cs, show decide ((2 : Int) = 1) = false from rfl]
          refine callQ H (log_Cell_s (H.at 2 rfl) ak.inst) fun M f H => ?_
          simp (disch := omega) only [go_sem, undef]
          refine newQ H fun b5 M f H => ?_
          simp (disch := omega) only [go_sem, undef]
          refine stwQ0 H rfl rfl fun M f H => ?_
          simp (disch := omega) only [go_sem, undef, H.cs]
          refine callQ H (ref15_LCell_s (H.at 2 rfl) hs.asc (by omega) ak.inst) fun M f H => ?_
          rw [hs.lk]
          simp (disch := omega) only [go_sem, undef]
          refine newQ H fun b6 M f H => ?_
          simp (disch := omega) only [go_sem, undef]
          refine stwQ0 H rfl rfl fun M f H => ?_
          simp (disch := omega) only [go_sem, undef, H.cs, bne_self_eq_false]
          refine callQ H (log_Gone_s (H.at 4 rfl) ak.inst) fun M f H => ?_
          simp (disch := omega) only [go_sem, undef, H.cs]
          refine callQ H (ref15_Gone_s (H.at 3 rfl) ak.inst) fun M f H => ?_
          simp (disch := omega) only [go_sem, undef, bne_self_eq_false]
          have H := H.tail.tail
          refine callQ H (law_alike_s (H.at 2 rfl) (H.at 1 rfl) hs hkk (by omega)) fun M f H => ?_
          simp (disch := omega) only [go_sem, undef]
          exact handN_intro (60 - (k + 1)) (by omega) ⟨k + 1, ct, l, r, iv, cv, by omega, rfl, rfl, hs, hkk, by omega, H.tail⟩
        · by_cases k3 : ak.kind = 3
          · simp (disch := omega) only [go_sem, undef, k3, H.cs, show decide ((3 : Int) = 1) = false from rfl, show decide ((3 : Int) = 2) = false from rfl]
            refine callS2 (logA lx rx (trimD ct ak.upto) (liveC (trimD ct ak.upto) l)) H (log_Trim_q (H.at 2 rfl) ak.upto) rfl rfl fun M f H => ?_
            simp (disch := omega) only [go_sem, undef, H.cs]
            refine callA1 H (ref15_Trim_s (H.at 1 rfl) (by omega) ak.upto) fun v M A' ⟨e, iv2, cv2, eA⟩ f H => ?_
            subst e eA
            have hlen2 : List.length (liveC (trimD ct ak.upto) l) ≤ k := by
              have := List.length_filter_le (fun p : (Int × Int) × Cel => decide (¬ goneD (trimD ct ak.upto) p.1)) l
              unfold liveC; omega
            simp (disch := omega) only [go_sem, undef]
            refine callQ H (law_alike_s (H.at 2 rfl) (H.at 1 rfl) (hs.live _) (keysOk_live hkk) (by omega)) fun M f H => ?_
            simp (disch := omega) only [go_sem, undef]
            exact handN_intro (60 - (k + 1)) (by omega) ⟨k + 1, _, _, _, iv2, cv2, by omega, rfl, rfl, hs.live _, keysOk_live hkk, by omega, H.tail⟩
          · simp (disch := omega) only [go_sem, undef, decide_eq_false k1, decide_eq_false k2, decide_eq_false k3]
            refine callQ H (law_alike_s (H.at 2 rfl) (H.at 1 rfl) hs hkk (by omega)) fun M f H => ?_
            simp (disch := omega) only [go_sem, undef]
            exact handN_intro (60 - (k + 1)) (by omega) ⟨k + 1, ct, l, r, iv, cv, by omega, rfl, rfl, hs, hkk, by omega, H.tail⟩
  · by_cases h2 : k < l0.length
    all_goals
      clear hv
      simp (disch := omega) only [go_sem, undef, dec_t, dec_f]
      refine callQ H (law_Runs_s _) fun M f H => ?_
      simp (disch := omega) only [go_sem, undef]
      exact ⟨rfl, H.fr⟩
end Go.Fw
