import Derived.Test.YtadkdbnikmkgfaaRlB
set_option linter.unusedSimpArgs false
set_option linter.unusedVariables false
namespace Go.Fw
open Go.Proofs
variable {m m0 M : Mem} {S : List Nat} {L : List As}
theorem live_snoc {ct : Dp} {l : LogL} {k : Nat} {p : (Int × Int) × Cel} (h : l[k]? = some p) : liveC ct (l.take (k + 1)) = liveC ct (l.take k) ++ if goneD ct p.1 then [] else [p] := by
  rw [List.take_add_one, h]
  show List.filter _ (l.take k ++ [p]) = _
  rw [List.filter_append]
  congr 1
  by_cases hg : goneD ct p.1
  · rw [List.filter_cons, if_neg (by rw [decide_eq_true_eq]; exact not_not_intro hg), if_pos hg]; rfl
  · rw [List.filter_cons, if_pos (by rw [decide_eq_true_eq]; exact hg), if_neg hg]; rfl
set_option maxHeartbeats 2000000 in
theorem ref15_Trim_s {wb : Nat} {iv cv : Value} {cut : Dp} {l : LogL} (h : (logR wb iv cv cut l).p m) (hl : l.length ≤ 100000) (upto : Dp) :
    CM Try.prog n_ref15_Log_Trim [lpp wb, upto.v] m (logR wb iv cv cut l) fun v A' => v = .tuple #[] ∧ ∃ iv' cv', A' = logR wb iv' cv' (trimD cut upto) (liveC (trimD cut upto) l) := by
  obtain ⟨a, cc, e1⟩ := (logR_C h).form
  obtain ⟨ai, ci, e2⟩ := (logR_I h).form
  have hlm : (l.map (·.2)).length = l.length := List.length_map ..
  have hlm1 : (l.map (·.1)).length = l.length := List.length_map ..
  rw [hlm] at e1
  rw [hlm1] at e2
  subst e1 e2
  refine ref15_Log_Trim_go (by simp [Try.f33]) ?_
  have H := Hq.one h
  simp (disch := omega) only [go_sem, undef]
  refine newQ H fun b1 _ _ H => ?_
  simp (disch := omega) only [go_sem, undef]
  have H := logR_open (upQ1 H)
  refine loopQ_intro (fun n E m' => ∃ (k : Nat) (c : Dp), k ≤ 7 ∧ n = 7 - k ∧ E = [(0, lpp wb), (3, .pointer (some ⟨b1, 0, none⟩)), (4, .int .i64 k)] ∧ (∀ j, j < k → c.g j = (trimD cut upto).g j) ∧ (∀ j, k ≤ j → c.g j = cut.g j) ∧
    Hq m m' (logR wb (.slice ai l.length ci) (.slice a l.length cc) cut l).wp [cellA wb (.cells (Value.slice ai l.length ci :: Value.slice a l.length cc :: dv c).toArray T_ref15_Log (0, 0)), ownA T_api_Inst 2 (.slice ai l.length ci) l.length ((l.map (·.1)).flatMap pc), ownA T_api_Cell 21 (.slice a l.length cc) l.length ((l.map (·.2)).flatMap Cel.cs), cellA b1 (.cells (dv upto).toArray T_api_Deps (0, 0))]) 7 rfl ⟨0, cut, by omega, rfl, rfl, by simp, by simp, H⟩ ?_
  clear H
  rintro n E m' ⟨k, c, hk, rfl, rfl, h1, h2, H⟩
  simp (disch := omega) only [go_sem, undef]
  refine condB_dec (fun h3 => ?_) (fun h3 => ?_)
  · have hk7 : k < 7 := by omega
    simp (disch := omega) only [go_sem, undef, H.cs, Nat.add_comm 2]
    refine wrQ0 H fun M _ H => ?_
    simp (disch := omega) only [go_sem, undef]
    refine handN_intro (7 - (k + 1)) (by omega) ⟨k + 1, _, by omega, rfl, rfl, fun j hj => ?_, fun j hj => ?_, H⟩
    · rw [Dp.up_g]
      by_cases e : j = k
      · subst e; simp [hk7, trimD_g, h2 j (Nat.le_refl _)]
      · rw [if_neg (fun h => e h.1)]; exact h1 j (by omega)
    · rw [Dp.up_g, if_neg (by omega)]; exact h2 j (by omega)
  · have hc : c = trimD cut upto := Dp.ext_g fun j hj => h1 j (by omega)
    rw [hc] at H
    clear h1 h2 hc
    simp (disch := omega) only [go_sem, undef]
    have H := logR_close H
    have H := (H.nilRow T_api_Cell 21).nilRow T_api_Inst 2
    generalize trimD cut upto = ct at *
    refine loopQ_intro (fun n E m' => ∃ k u w, k ≤ l.length ∧ n = l.length - k ∧ E = [(0, lpp wb), (5, u), (6, w), (7, .int .i64 (k : Nat))] ∧
      Hq m m' (logR wb (.slice ai l.length ci) (.slice a l.length cc) cut l).wp [ownA T_api_Inst 2 u (liveC ct (l.take k)).length (((liveC ct (l.take k)).map (·.1)).flatMap pc), ownA T_api_Cell 21 w (liveC ct (l.take k)).length (((liveC ct (l.take k)).map (·.2)).flatMap Cel.cs),
        logR wb (.slice ai l.length ci) (.slice a l.length cc) ct l, cellA b1 (.cells (dv upto).toArray T_api_Deps (0, 0))]) l.length rfl ⟨0, _, _, by omega, rfl, rfl, H⟩ ?_
    clear H
    rintro n E m' ⟨k, u, w, hk1, rfl, rfl, H⟩
    by_cases h4 : k < l.length
    · have hlk : l[k]? = some l[k] := List.getElem?_eq_getElem h4
      generalize l[k] = p at hlk
      have hlive : (liveC ct (l.take k)).length ≤ k := by
        have := List.length_filter_le (fun p : (Int × Int) × Cel => decide (¬ goneD ct p.1)) (l.take k)
        rw [List.length_take] at this; unfold liveC; omega
      have hsn := live_snoc (ct := ct) hlk
      refine RdS.elK (l := l.map (·.1)) (by rw [hlm1]; exact logR_I (H.at 2 rfl)) (i := k) (by rw [hlm1]; exact h4) (by decide) fun b2 o2 x hx hix hE => ?_
      have hxp : x = p.1 := by rw [List.getElem?_map, hlk] at hx; simpa using hx.symm
      subst hxp
      refine RdS.elK (l := l.map (·.2)) (by rw [hlm]; exact logR_C (H.at 2 rfl)) (i := k) (by rw [hlm]; exact h4) (by decide) fun b3 o3 y hy hiy hF => ?_
      have hyp : y = p.2 := by rw [List.getElem?_map, hlk] at hy; simpa using hy.symm
      subst hyp
      have hEm : ∀ M, (logR wb (.slice ai l.length ci) (.slice a l.length cc) ct l).p M → El 2 pc M b2 o2 p.1 := fun M hM => RdS.elA (l := l.map (·.1)) (by rw [hlm1]; exact logR_I hM) hx (by decide) hix
      have hFm : ∀ M, (logR wb (.slice ai l.length ci) (.slice a l.length cc) ct l).p M → El 21 Cel.cs M b3 o3 p.2 := fun M hM => RdS.elA (l := l.map (·.2)) (by rw [hlm]; exact logR_C hM) hy (by decide) hiy
      rw [hlm1] at hix
      rw [hlm] at hiy
      simp (disch := omega) only [go_sem, undef, H.cs, dec_t, hix, hE.lda0]
      refine callQ H (ref15_Gone_s (H.at 2 rfl) p.1) fun M f H => ?_
      have hE := hE.frame f
      have hF := hF.frame f
      by_cases hg : goneD ct p.1
      · simp (disch := omega) only [go_sem, undef, decide_eq_true hg]
        refine handN_intro (l.length - (k + 1)) (by omega) ⟨k + 1, u, w, by omega, rfl, rfl, ?_⟩
        rw [hsn, if_pos hg, List.append_nil]; exact H
      · rw [if_neg hg] at hsn
        simp (disch := omega) only [go_sem, undef, decide_eq_false hg, H.cs, hix, hE.lda0, hiy, hF.lda0]
        have eI : ∀ v, ownA T_api_Inst 2 v ((liveC ct (l.take k)).length + 1) (((liveC ct (l.take k)).map (·.1)).flatMap pc ++ (pc p.1).take (1 * 2)) = ownA T_api_Inst 2 v (liveC ct (l.take (k + 1))).length (((liveC ct (l.take (k + 1))).map (·.1)).flatMap pc) := fun v => by
          rw [hsn, List.take_of_length_le (l := pc p.1) (by rw [pc_len]; decide)]; simp
        have eC : ∀ v, ownA T_api_Cell 21 v ((liveC ct (l.take k)).length + 1) (((liveC ct (l.take k)).map (·.2)).flatMap Cel.cs ++ (p.2.cs).take (1 * 21)) = ownA T_api_Cell 21 v (liveC ct (l.take (k + 1))).length (((liveC ct (l.take (k + 1))).map (·.2)).flatMap Cel.cs) := fun v => by
          rw [hsn, List.take_of_length_le (l := p.2.cs) (by rw [Cel.len]; decide)]; simp
        refine both_cut (fun E M => ∃ u w, E = [(0, lpp wb), (5, u), (6, w), (7, .int .i64 (k : Nat))] ∧ Hq m M (logR wb (.slice ai l.length ci) (.slice a l.length cc) cut l).wp [ownA T_api_Inst 2 u (liveC ct (l.take (k + 1))).length (((liveC ct (l.take (k + 1))).map (·.1)).flatMap pc), ownA T_api_Cell 21 w (liveC ct (l.take (k + 1))).length (((liveC ct (l.take (k + 1))).map (·.2)).flatMap Cel.cs), logR wb (.slice ai l.length ci) (.slice a l.length cc) ct l, cellA b1 (.cells (dv upto).toArray T_api_Deps (0, 0))]) ?_ ?_
        · rintro E M ⟨u2, w2, eE, H⟩
          subst eE
          simp (disch := omega) only [go_sem, undef]
          exact handN_intro (l.length - (k + 1)) (by omega) ⟨k + 1, u2, w2, by omega, rfl, rfl, H⟩
        · simp (disch := omega) only [go_sem, undef, H.cs]
          refine both_intro ?_ ?_
          · simp (disch := omega) only [go_sem, undef, H.cs, hiy, hix, (hFm _ (H.at 2 rfl)).lda0, (hEm _ (H.at 2 rfl)).lda0]
            refine newQ H fun b4 M f H => ?_
            simp (disch := omega) only [go_sem, undef, H.cs, hiy, hix, (hFm _ (H.at 3 rfl)).lda0, (hEm _ (H.at 3 rfl)).lda0]
            refine both_intro ?_ ?_
            · simp (disch := omega) only [go_sem, undef, H.cs, hiy, hix, (hFm _ (H.at 3 rfl)).lda0, (hEm _ (H.at 3 rfl)).lda0]
              refine appQ1 H (k := 1) rfl (ldS_cell (l := pc p.1) H.cs.1 (by rw [pc_len]; decide)) (by rw [List.take_of_length_le (by rw [pc_len]; decide), pc_len]) (fun v hv => List.all_eq_true.1 (pc_one p.1) v (List.mem_of_mem_take hv)) rfl (by omega) (by omega) fun u M _ H => ?_
              simp (disch := omega) only [go_sem, undef, H.cs, hiy, hix, (hFm _ (H.at 3 rfl)).lda0, (hEm _ (H.at 3 rfl)).lda0]
              refine newQ H fun b5 M f H => ?_
              simp (disch := omega) only [go_sem, undef, H.cs, hiy, hix, (hFm _ (H.at 4 rfl)).lda0, (hEm _ (H.at 4 rfl)).lda0]
              refine appQ3 H (k := 1) rfl (ldS_cell (l := p.2.cs) H.cs.1 (by rw [Cel.len]; decide)) (by rw [List.take_of_length_le (by rw [Cel.len]; decide), Cel.len]) (fun v hv => List.all_eq_true.1 (Cel.one p.2) v (List.mem_of_mem_take hv)) rfl (by omega) (by omega) fun w M _ H => ?_
              rw [eI, eC] at H
              have H := H.tail.tail
              simp (disch := omega) only [go_sem, undef]
              exact ⟨_, _, rfl, H⟩
            · simp (disch := omega) only [go_sem, undef, H.cs, hiy, hix, (hFm _ (H.at 3 rfl)).lda0, (hEm _ (H.at 3 rfl)).lda0]
              refine newQ H fun b5 M f H => ?_
              simp (disch := omega) only [go_sem, undef, H.cs, hiy, hix, (hFm _ (H.at 4 rfl)).lda0, (hEm _ (H.at 4 rfl)).lda0]
              refine appQ2 H (k := 1) rfl (ldS_cell (l := pc p.1) H.cs.2.1 (by rw [pc_len]; decide)) (by rw [List.take_of_length_le (by rw [pc_len]; decide), pc_len]) (fun v hv => List.all_eq_true.1 (pc_one p.1) v (List.mem_of_mem_take hv)) rfl (by omega) (by omega) fun u M _ H => ?_
              simp (disch := omega) only [go_sem, undef, H.cs, hiy, hix, (hFm _ (H.at 4 rfl)).lda0, (hEm _ (H.at 4 rfl)).lda0]
              refine appQ3 H (k := 1) rfl (ldS_cell (l := p.2.cs) H.cs.1 (by rw [Cel.len]; decide)) (by rw [List.take_of_length_le (by rw [Cel.len]; decide), Cel.len]) (fun v hv => List.all_eq_true.1 (Cel.one p.2) v (List.mem_of_mem_take hv)) rfl (by omega) (by omega) fun w M _ H => ?_
              rw [eI, eC] at H
              have H := H.tail.tail
              simp (disch := omega) only [go_sem, undef]
              exact ⟨_, _, rfl, H⟩
          · simp (disch := omega) only [go_sem, undef, H.cs, hiy, hix, (hFm _ (H.at 2 rfl)).lda0, (hEm _ (H.at 2 rfl)).lda0]
            refine newQ H fun b5 M f H => ?_
            simp (disch := omega) only [go_sem, undef, H.cs, hiy, hix, (hFm _ (H.at 3 rfl)).lda0, (hEm _ (H.at 3 rfl)).lda0]
            refine newQ H fun b4 M f H => ?_
            simp (disch := omega) only [go_sem, undef, H.cs, hiy, hix, (hFm _ (H.at 4 rfl)).lda0, (hEm _ (H.at 4 rfl)).lda0]
            refine appQ2 H (k := 1) rfl (ldS_cell (l := pc p.1) H.cs.1 (by rw [pc_len]; decide)) (by rw [List.take_of_length_le (by rw [pc_len]; decide), pc_len]) (fun v hv => List.all_eq_true.1 (pc_one p.1) v (List.mem_of_mem_take hv)) rfl (by omega) (by omega) fun u M _ H => ?_
            simp (disch := omega) only [go_sem, undef, H.cs, hiy, hix, (hFm _ (H.at 4 rfl)).lda0, (hEm _ (H.at 4 rfl)).lda0]
            refine appQ3 H (k := 1) rfl (ldS_cell (l := p.2.cs) H.cs.2.1 (by rw [Cel.len]; decide)) (by rw [List.take_of_length_le (by rw [Cel.len]; decide), Cel.len]) (fun v hv => List.all_eq_true.1 (Cel.one p.2) v (List.mem_of_mem_take hv)) rfl (by omega) (by omega) fun w M _ H => ?_
            rw [eI, eC] at H
            have H := H.tail.tail
            simp (disch := omega) only [go_sem, undef]
            exact ⟨_, _, rfl, H⟩
    · have e : k = l.length := by omega
      subst e
      rw [List.take_length] at H
      simp (disch := omega) only [go_sem, undef, H.cs, dec_f]
      refine Own.formK (H.at 0 rfl) fun au cu e => ?_
      subst e
      refine Own.formK (H.at 1 rfl) fun aw cw e => ?_
      subst e
      have H := logR_open (upQ2 H)
      simp (disch := omega) only [go_sem, undef, H.cs]
      refine wrQ0 H fun M _ H => ?_
      simp (disch := omega) only [go_sem, undef, H.cs]
      refine wrQ0 H fun M _ H => ?_
      simp (disch := omega) only [go_sem, undef]
      exact logR_end (logR_close (dropQ1 (dropQ1 H))) rfl
end Go.Fw
