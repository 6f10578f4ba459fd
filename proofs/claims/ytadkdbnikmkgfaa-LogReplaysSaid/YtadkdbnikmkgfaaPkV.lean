import Derived.Test.YtadkdbnikmkgfaaPkU
import Derived.Test.YtadkdbnikmkgfaaBsZ
set_option linter.unusedSimpArgs false
set_option linter.unusedVariables false
namespace Go.Fw
open Go.Proofs
variable {m m0 M : Mem} {S : List Nat} {L : List As}
abbrev recP (p : (Int × Int) × Cel) : List UInt8 := recB p.1 p.2
/-- a piece whose order is drawn, cut off: all its orders come to J -/
theorem both_cut {P : Program} {Lf : Nat → Value} {a b : ET} {σ : Env} {K : Env → Mem → Prop} {l : Lk (etP P Lf a σ m K)} {l' : Lk (etP P Lf b σ m K)} (J : Env → Mem → Prop) (hK : ∀ E M, J E M → K E M) (h : etP P Lf (.both a b) σ m J) : both (etP P Lf a σ m K) (etP P Lf b σ m K) l l' := etP_mono hK _ _ _ h
theorem both_cut3 {P : Program} {Lf : Nat → Value} {a b c : ET} {σ : Env} {K : Env → Mem → Prop} {l : Lk (etP P Lf a σ m K)} {l1 : Lk (etP P Lf b σ m K)} {l2 : Lk (etP P Lf c σ m K)} {l3 : Lk (both (etP P Lf b σ m K) (etP P Lf c σ m K) l1 l2)} (J : Env → Mem → Prop) (hK : ∀ E M, J E M → K E M) (h : etP P Lf (.both a (.both b c)) σ m J) :
    both (etP P Lf a σ m K) (both (etP P Lf b σ m K) (etP P Lf c σ m K) l1 l2) l l3 := ⟨etP_mono hK _ _ _ h.1, etP_mono hK _ _ _ h.2.1, etP_mono hK _ _ _ h.2.2⟩
theorem cut0 {a : Option Addr} {c : Nat} {l : List UInt8} (h : RdB m (.slice a l.length c) l) (hl : l ≠ []) (r : Int) (hr : 0 ≤ r ∧ r ≤ (l.length : Int)) : cutS 1 a c 0 r = some (.slice a r.toNat c) := by
  obtain ⟨_, a', c', e, hc, hr2⟩ := h
  cases e
  rcases hr2 with h0 | ⟨b, o, rfl, _⟩
  · have := bys_len l
    rw [bys, h0] at this
    exact absurd (List.eq_nil_of_length_eq_zero (by simpa using this.symm)) hl
  · unfold cutS
    rw [if_pos (by omega)]
    simp [add_mk]
theorem RdB.pre {a : Option Addr} {c : Nat} {l : List UInt8} (h : RdB m (.slice a l.length c) l) (r : Int) (hr : 0 ≤ r ∧ r ≤ (l.length : Int)) : RdB m (.slice a r.toNat c) (l.take r.toNat) := by
  obtain ⟨hk, a', c', e, hc, hr2⟩ := h
  cases e
  refine ⟨hk, a, c, by rw [List.length_take]; congr 1; omega, by rw [List.length_take]; omega, ?_⟩
  rcases hr2 with h0 | ⟨b, o, rfl, hcell⟩
  · left; rw [flat_take hk, h0]; simp
  · right
    refine ⟨b, o, rfl, fun i v hv => ?_⟩
    rw [flat_take hk, List.getElem?_take] at hv
    split at hv
    · exact hcell i v hv
    · cases hv
theorem RdS.elAt {α : Type} {k : Nat} {enc : α → List Value} {a : Option Addr} {c i b o : Nat} {l : List α} {x : α} (h : RdS k enc M (.slice a l.length c) l) (hi : l[i]? = some x) (k0 : 0 < k) (hx : IxAt k (.slice a l.length c) i b o) : El k enc M b o x := by
  obtain ⟨hlt, rfl⟩ := List.getElem?_eq_some_iff.1 hi
  obtain ⟨b2, o2, h1, _, h3⟩ := h.el hlt k0
  have e := (hx .i64 M).symm.trans (h1 .i64 M)
  simp only [Option.some.injEq, Value.pointer.injEq, Addr.mk.injEq, and_true] at e
  obtain ⟨rfl, rfl⟩ := e
  exact ⟨h.1 _, h3⟩
theorem recB_ne (i : Int × Int) (c : Cel) : recB i c ≠ [] := by
  intro h
  have h1 : numB i.1 = [] := by
    unfold recB ballB at h
    exact (List.append_eq_nil_iff.1 (List.append_eq_nil_iff.1 h).1).1
  unfold numB at h1
  rw [numF] at h1
  split at h1 <;> simp at h1
set_option maxHeartbeats 1000000 in
theorem law_Replays_s {v : Value} {l : List Ask} (hv : AskOk m v l) (cut : Int) (hcut : R6 cut) : MC Try.prog n_law16_LogReplays [v, .int .i64 cut] m fun v m' => v = .bool true ∧ Fr m m' [] := by
  obtain ⟨a, c, rfl⟩ := hv.form
  refine law16_LogReplays_go (by simp [Try.f33]) ?_
  have H := Hq.refl m []
  simp (disch := omega) only [go_sem, undef]
  refine callN H (log_New_q _ _) fun v M A' ⟨lx, rx, e, eA⟩ f H => ?_
  subst e eA
  rw [trim00] at H
  simp (disch := omega) only [go_sem, undef, Option.isNone_some]
  refine callN H (log_New_q _ _) fun v M A' ⟨ly, ry, e, eA⟩ f H => ?_
  subst e eA
  rw [trim00] at H
  simp (disch := omega) only [go_sem, undef, Option.isNone_some]
  have H := H.nilBr T_S_uint8
  refine loopQ_intro (fun n E m' => ∃ k A X w vs, k ≤ 40 ∧ n = 40 - k ∧ E = [(0, .slice a l.length c), (1, .int .i64 cut), (5, lp lx), (6, lp ly), (7, w), (8, .int .i64 (k : Nat))] ∧ List.length A ≤ k ∧ List.length X ≤ k ∧ KeysOk X ∧ Accd A X ∧
    Hq m m' [] [brA T_S_uint8 w vs (A.map recP), logA lx rx Dp.zero X, logA ly ry Dp.zero []]) 40 rfl ⟨0, [], [], _, [], by omega, rfl, rfl, by simp, by simp, by simp [keysC], .nil, downQ1 (upQ2 H)⟩ ?_
  clear H f
  rintro n E m' ⟨k, A, X, w, vs, hk, rfl, rfl, hA, hX, hkk, hacc, H⟩
  simp (disch := omega) only [go_sem, undef]
  by_cases h1 : k < l.length ∧ k < 40
  · obtain ⟨h1, h2⟩ := h1
    refine RdS.elK (RdS.frame hv H.fr) h1 (by decide) fun b1 o1 ak hak hx hE => ?_
    simp (disch := omega) only [go_sem, undef, dec_t, hx, hE.lda]
    refine callR H (law_light_s _ _) fun v M ⟨lt, e⟩ f4 H => ?_
    subst e
    simp (disch := omega) only [go_sem, undef]
    cases lt
    · simp (disch := omega) only [go_sem, undef]
      exact handN_intro (40 - (k + 1)) (by omega) ⟨k + 1, A, X, w, vs, by omega, rfl, rfl, by omega, by omega, hkk, hacc, H⟩
    · simp (disch := omega) only [go_sem, undef, H.cs, dec_t, hx, (hE.frame f4).lda]
      by_cases hm : mayS Dp.zero X ak.inst ak.cel
      · refine callS1 (logA lx rx Dp.zero (if mayS Dp.zero X ak.inst ak.cel then upC ak.inst ak.cel X else X)) H (log_Set_q (H.at 1 rfl) ak.inst ak.cel) rfl rfl fun M2 f6 H => ?_
        have hE2 : El 31 Ask.cs M2 b1 o1 ak := RdS.elAt (RdS.frame hv H.fr) hak (by decide) hx
        have hkk2 := keysOk_up (cut := Dp.zero) hkk (k := ak.inst) (c := ak.cel)
        rw [if_pos hm] at H hkk2
        simp (disch := omega) only [go_sem, undef, dec_t, hx, hE2.lda, decide_eq_true hm]
        have hr := hm.1
        refine callN H (log_Record_w ak.inst (by omega) ak.cel hm.2.2.1) fun u M A' e f H => ?_
        subst e
        refine Own.formK (H.at 0 rfl) fun au cu e => ?_
        subst e
        simp (disch := omega) only [go_sem, undef]
        refine newQ H fun bb M f H => ?_
        simp (disch := omega) only [go_sem, undef]
        have hlen := brA_len (H.at 2 rfl)
        simp only [List.length_map] at hlen
        refine app_br H rfl rfl (by omega) fun w2 M H => ?_
        simp (disch := omega) only [go_sem, undef]
        have := upC_len ak.inst ak.cel X
        exact handN_intro (40 - (k + 1)) (by omega) ⟨k + 1, A ++ [(ak.inst, ak.cel)], upC ak.inst ak.cel X, w2, _, by omega, rfl, rfl, by simp; omega, by omega, hkk2, .snoc hacc hm, by simpa using H⟩
      · refine callS1 (logA lx rx Dp.zero (if mayS Dp.zero X ak.inst ak.cel then upC ak.inst ak.cel X else X)) H (log_Set_q (H.at 1 rfl) ak.inst ak.cel) rfl rfl fun M2 f6 H => ?_
        rw [if_neg hm] at H
        simp (disch := omega) only [go_sem, undef, decide_eq_false hm]
        exact handN_intro (40 - (k + 1)) (by omega) ⟨k + 1, A, X, w, vs, by omega, rfl, rfl, by omega, by omega, hkk, hacc, H⟩
  · by_cases h2 : k < l.length
    all_goals
      clear hv
      simp (disch := omega) only [go_sem, undef, dec_t, dec_f]
      have hlenv := brA_len (H.at 0 rfl)
      simp only [List.length_map] at hlenv
      have hrds := brA_rds (H.at 0 rfl)
      refine Exists.elim hrds.form fun aw hh => Exists.elim hh fun cw ew => ?_
      subst ew
      clear hrds hh
      refine loopQ_intro (fun n E m' => ∃ r y, r ≤ 2 ∧ n = 2 - r ∧ E = [(1, .int .i64 cut), (5, lp lx), (6, lp ly), (7, .slice aw vs.length cw), (9, .int .i64 (r : Nat))] ∧ (r = 0 → y = []) ∧ (r = 1 → y = X) ∧ (r = 2 → Again A X A.length y) ∧
        Hq m m' [] [brA T_S_uint8 (.slice aw vs.length cw) vs (A.map recP), logA lx rx Dp.zero X, logA ly ry Dp.zero y]) 2 rfl ⟨0, [], by omega, rfl, rfl, fun _ => rfl, by simp, by simp, H⟩ ?_
      clear H
      rintro n E m' ⟨r, y, hr2, rfl, rfl, hr0, hr1, hrA, H⟩
      simp (disch := omega) only [go_sem, undef]
      refine condB_dec (fun h3 => ?_) (fun h3 => ?_)
      · simp (disch := omega) only [go_sem, undef]
        refine loopQ_intro (fun n E m' => ∃ j y, j ≤ A.length ∧ n = A.length - j ∧ E = [(1, .int .i64 cut), (5, lp lx), (6, lp ly), (7, .slice aw vs.length cw), (9, .int .i64 (r : Nat)), (10, .int .i64 (j : Nat))] ∧ (r = 0 → Accd (A.take j) y) ∧ (r = 1 → Again A X j y) ∧
          Hq m m' [] [brA T_S_uint8 (.slice aw vs.length cw) vs (A.map recP), logA lx rx Dp.zero X, logA ly ry Dp.zero y]) A.length rfl ⟨0, y, by omega, by omega, rfl, fun e => by rw [hr0 e]; exact .nil, fun e => by rw [hr1 e]; exact .start, H⟩ ?_
        clear H hr0 hr1 hrA
        rintro n E m' ⟨j, y, hj, rfl, rfl, hj0, hj1, H⟩
        simp (disch := omega) only [go_sem, undef]
        refine condB_dec (fun h4 => ?_) (fun h4 => ?_)
        · have hjl : j < vs.length := by omega
          have hjA : j < A.length := by omega
          refine RdS.elK (brA_rds (H.at 0 rfl)) hjl (by decide) fun b1 o1 x hx hix hE => ?_
          have hpA : A[j]? = some A[j] := List.getElem?_eq_getElem hjA
          generalize A[j] = p at hpA
          have hmap : (A.map recP)[j]? = some (recP p) := by rw [List.getElem?_map, hpA]; rfl
          have hxr := brA_at (H.at 0 rfl) hx hmap
          obtain ⟨hpr, hpc⟩ := hacc.right p (List.mem_of_getElem? hpA)
          have hlen : (recP p).length ≤ 1000 := recB_len p.1 hpc
          simp (disch := omega) only [go_sem, undef, hix, hE.ld0]
          refine callQ H (log_Replay_s hxr (by omega)) fun M f H => ?_
          rw [show replay (recP p) = (p.1, p.2, 0) from replay_rec hpr hpc]
          simp (disch := omega) only [go_sem, undef]
          refine newQ H fun b11 _ _ H => ?_
          simp (disch := omega) only [go_sem, undef]
          refine newQ H fun b12 _ _ H => ?_
          simp (disch := omega) only [go_sem, undef]
          refine stwQ1 H rfl rfl fun _ _ H => ?_
          simp (disch := omega) only [go_sem, undef]
          refine stwQ0 H rfl rfl fun M0 _ H => ?_
          have hrd : RdB M0 x (recP p) := brA_at (H.at 2 rfl) hx hmap
          have hE0 : El 1 v1 M0 b1 o1 x := RdS.elAt (brA_rds (H.at 2 rfl)) hx (by decide) hix
          refine Exists.elim hrd.form fun ax hh => Exists.elim hh fun cx ex => ?_
          subst ex
          clear hxr hE hh
          have hne := recB_ne p.1 p.2
          have hpos : 0 < (recP p).length := List.length_pos_iff.2 hne
          simp (disch := omega) only [go_sem, undef, hix, hE0.ld0]
          refine both_cut3 (J := fun E M => ∃ e : Int, e ≠ 0 ∧ E = [(1, .int .i64 cut), (5, lp lx), (6, lp ly), (7, .slice aw vs.length cw), (9, .int .i64 (r : Nat)), (10, .int .i64 (j : Nat)), (11, .pointer (some ⟨b11, 0, none⟩)), (12, .pointer (some ⟨b12, 0, none⟩)), (13, .int .i64 0), (16, .int .i64 e)] ∧ Fr M0 M []) ?_ ?_
          · rintro E M ⟨e, he, eE, f⟩
            subst eE
            have H := H.keep f
            clear f
            have h9 : (j : Int) < vs.length := by omega
            by_cases hr : r = 0
            · have h5 := hacc.at hpA (hj0 hr)
              have hm := h5.1
              have hacc2 := h5.2
              clear h5
              simp (disch := omega) only [go_sem, undef, H.cs, decide_eq_false he, dec_t]
              refine callS4 (logA ly ry Dp.zero (if mayS Dp.zero y p.1 p.2 then upC p.1 p.2 y else y)) H (log_Set_q (H.at 4 rfl) p.1 p.2) rfl rfl fun M _ H => ?_
              rw [if_pos hm] at H
              simp (disch := omega) only [go_sem, undef, decide_eq_true hm, dec_f]
              exact handN_intro (A.length - (j + 1)) (by omega) ⟨j + 1, _, by omega, rfl, rfl, fun _ => hacc2, fun h => by omega, H.tail.tail⟩
            · have hr1 : r = 1 := by omega
              simp (disch := omega) only [go_sem, undef, H.cs, decide_eq_false he, dec_f, dec_t]
              refine callS4 (logA ly ry Dp.zero (if mayS Dp.zero y p.1 p.2 then upC p.1 p.2 y else y)) H (log_Set_q (H.at 4 rfl) p.1 p.2) rfl rfl fun M _ H => ?_
              simp (disch := omega) only [go_sem, undef]
              exact handN_intro (A.length - (j + 1)) (by omega) ⟨j + 1, stepC y p, by omega, rfl, rfl, fun h => by omega, fun _ => (hj1 hr1).next hacc hpA, H.tail.tail⟩
          · clear H
            have H := Hq.refl M0 []
            have hcS := cut0 hrd hne
            simp (disch := omega) only [go_sem, undef]
            repeat' (first
              | ((with_reducible refine newQ H fun _ _ f H2 => ?_); clear f; clear H; have H := H2; clear H2; simp (disch := omega) only [go_sem, undef, H.cs, *, rd_slc01, hcS, (hE0.frame H.fr).ld0, (hE0.frame H.fr).lda0])
              | ((with_reducible refine wrQ0 H fun _ f H2 => ?_); clear f; clear H; have H := H2; clear H2; simp (disch := omega) only [go_sem, undef, H.cs, *, rd_slc01, hcS, (hE0.frame H.fr).ld0, (hE0.frame H.fr).lda0])
              | ((with_reducible refine wrQ1 H fun _ f H2 => ?_); clear f; clear H; have H := H2; clear H2; simp (disch := omega) only [go_sem, undef, H.cs, *, rd_slc01, hcS, (hE0.frame H.fr).ld0, (hE0.frame H.fr).lda0])
              | ((with_reducible refine wrQ2 H fun _ f H2 => ?_); clear f; clear H; have H := H2; clear H2; simp (disch := omega) only [go_sem, undef, H.cs, *, rd_slc01, hcS, (hE0.frame H.fr).ld0, (hE0.frame H.fr).lda0])
              | ((with_reducible refine wrQ3 H fun _ f H2 => ?_); clear f; clear H; have H := H2; clear H2; simp (disch := omega) only [go_sem, undef, H.cs, *, rd_slc01, hcS, (hE0.frame H.fr).ld0, (hE0.frame H.fr).lda0])
              | ((with_reducible refine wrQ4 H fun _ f H2 => ?_); clear f; clear H; have H := H2; clear H2; simp (disch := omega) only [go_sem, undef, H.cs, *, rd_slc01, hcS, (hE0.frame H.fr).ld0, (hE0.frame H.fr).lda0])
              | ((with_reducible refine wrQ5 H fun _ f H2 => ?_); clear f; clear H; have H := H2; clear H2; simp (disch := omega) only [go_sem, undef, H.cs, *, rd_slc01, hcS, (hE0.frame H.fr).ld0, (hE0.frame H.fr).lda0])
              | ((with_reducible refine stwQ0 H ?hl ?h1 fun _ f H2 => ?_); (case hl => rfl); (case h1 => rfl); clear f; clear H; have H := H2; clear H2; simp (disch := omega) only [go_sem, undef, H.cs, *, rd_slc01, hcS, (hE0.frame H.fr).ld0, (hE0.frame H.fr).lda0])
              | ((with_reducible refine stwQ1 H ?hl ?h1 fun _ f H2 => ?_); (case hl => rfl); (case h1 => rfl); clear f; clear H; have H := H2; clear H2; simp (disch := omega) only [go_sem, undef, H.cs, *, rd_slc01, hcS, (hE0.frame H.fr).ld0, (hE0.frame H.fr).lda0])
              | ((with_reducible refine stwQ2 H ?hl ?h1 fun _ f H2 => ?_); (case hl => rfl); (case h1 => rfl); clear f; clear H; have H := H2; clear H2; simp (disch := omega) only [go_sem, undef, H.cs, *, rd_slc01, hcS, (hE0.frame H.fr).ld0, (hE0.frame H.fr).lda0])
              | ((with_reducible refine stwQ3 H ?hl ?h1 fun _ f H2 => ?_); (case hl => rfl); (case h1 => rfl); clear f; clear H; have H := H2; clear H2; simp (disch := omega) only [go_sem, undef, H.cs, *, rd_slc01, hcS, (hE0.frame H.fr).ld0, (hE0.frame H.fr).lda0])
              | ((with_reducible refine stwQ4 H ?hl ?h1 fun _ f H2 => ?_); (case hl => rfl); (case h1 => rfl); clear f; clear H; have H := H2; clear H2; simp (disch := omega) only [go_sem, undef, H.cs, *, rd_slc01, hcS, (hE0.frame H.fr).ld0, (hE0.frame H.fr).lda0])
              | ((with_reducible refine stwQ5 H ?hl ?h1 fun _ f H2 => ?_); (case hl => rfl); (case h1 => rfl); clear f; clear H; have H := H2; clear H2; simp (disch := omega) only [go_sem, undef, H.cs, *, rd_slc01, hcS, (hE0.frame H.fr).ld0, (hE0.frame H.fr).lda0])
              | ((with_reducible refine stQ0 H ?hl ?h1 fun _ f H2 => ?_); (case hl => exact Nat.le_of_ble_eq_true rfl); (case h1 => rfl); clear f; (simp only [go_sem] at H2); clear H; have H := H2; clear H2; simp (disch := omega) only [go_sem, undef, H.cs, *, rd_slc01, hcS, (hE0.frame H.fr).ld0, (hE0.frame H.fr).lda0])
              | ((with_reducible refine stQ1 H ?hl ?h1 fun _ f H2 => ?_); (case hl => exact Nat.le_of_ble_eq_true rfl); (case h1 => rfl); clear f; (simp only [go_sem] at H2); clear H; have H := H2; clear H2; simp (disch := omega) only [go_sem, undef, H.cs, *, rd_slc01, hcS, (hE0.frame H.fr).ld0, (hE0.frame H.fr).lda0])
              | ((with_reducible refine stQ2 H ?hl ?h1 fun _ f H2 => ?_); (case hl => exact Nat.le_of_ble_eq_true rfl); (case h1 => rfl); clear f; (simp only [go_sem] at H2); clear H; have H := H2; clear H2; simp (disch := omega) only [go_sem, undef, H.cs, *, rd_slc01, hcS, (hE0.frame H.fr).ld0, (hE0.frame H.fr).lda0])
              | ((with_reducible refine stQ3 H ?hl ?h1 fun _ f H2 => ?_); (case hl => exact Nat.le_of_ble_eq_true rfl); (case h1 => rfl); clear f; (simp only [go_sem] at H2); clear H; have H := H2; clear H2; simp (disch := omega) only [go_sem, undef, H.cs, *, rd_slc01, hcS, (hE0.frame H.fr).ld0, (hE0.frame H.fr).lda0])
              | ((with_reducible refine callR H (within_s cut 0 (((recP p).length : Int) - 1) (by omega) hcut (by omega) (by omega)) fun _ _ hr f H2 => ?_); (obtain ⟨r1, e, hw1, hw2⟩ := hr; subst e); clear f; clear H; have H := H2; clear H2; simp (disch := omega) only [go_sem, undef, H.cs, *, rd_slc01, hcS, (hE0.frame H.fr).ld0, (hE0.frame H.fr).lda0])
              | ((with_reducible refine callQ H (log_Replay_s (RdB.pre (RdS.frame hrd H.fr) _ (by omega)) (by simp; omega)) fun _ f H2 => ?_); clear f; clear H; have H := H2; clear H2; simp (disch := omega) only [go_sem, undef, H.cs, *, rd_slc01, hcS, (hE0.frame H.fr).ld0, (hE0.frame H.fr).lda0])
              | ((with_reducible refine both_intro ?_ ?_) <;> (try simp (disch := omega) only [go_sem, undef, H.cs, *, rd_slc01, hcS, (hE0.frame H.fr).ld0, (hE0.frame H.fr).lda0]))
              | ((with_reducible refine gQ_split (fun hq => ?_) (fun hq => ?_)) <;> (try simp only [Bool.not_true, Bool.not_false] at hq) <;> simp (disch := omega) only [go_sem, undef, H.cs, *, rd_slc01, hcS, (hE0.frame H.fr).ld0, (hE0.frame H.fr).lda0])
              | ((with_reducible refine condB_split (fun hq => ?_) (fun hq => ?_)) <;> simp (disch := omega) only [go_sem, undef, H.cs, *, rd_slc01, hcS, (hE0.frame H.fr).ld0, (hE0.frame H.fr).lda0]))
            all_goals exact ⟨_, replay_cut hpr hpc (by show _ < (recP p).length; omega), rfl, H.fr⟩
        · have hjA : j = A.length := by omega
          simp (disch := omega) only [go_sem, undef]
          refine handN_intro (2 - (r + 1)) (by omega) ⟨r + 1, y, by omega, rfl, rfl, by omega, fun h => ?_, fun h => ?_, H⟩
          · have := hj0 (by omega)
            rw [hjA, List.take_length] at this
            exact this.uniq hacc
          · have := hj1 (by omega)
            rw [hjA] at this; exact this
      · have hI := (hrA (by omega)).done
        have hylen : List.length y = List.length X := by
          have := congrArg List.length hI.1; simpa [keysC] using this
        simp (disch := omega) only [go_sem, undef]
        refine callN H (log_List_q (H.at 1 rfl) (by omega)) fun u1 M A' ⟨l1, hp1, ha1, eA⟩ f H => ?_
        subst eA
        simp (disch := omega) only [go_sem, undef]
        refine callN H (log_List_q (H.at 3 rfl) (by omega)) fun u2 M A' ⟨l2, hp2, ha2, eA⟩ f H => ?_
        subst eA
        obtain rfl : l2 = l1 := asc_eq ha2 ha1 (hp2.trans (by rw [hI.1]; exact hp1.symm))
        refine Own.formK (H.at 1 rfl) fun a1 c1 e1 => ?_
        subst e1
        simp (disch := omega) only [go_sem, undef]
        refine loopQ_intro (fun n E m' => ∃ k, k ≤ l2.length ∧ n = l2.length - k ∧ E = [(5, lp lx), (6, lp ly), (17, .slice a1 l2.length c1), (18, u2), (19, .int .i64 (k : Nat))] ∧
          Hq m m' [] [ownA T_api_Inst 2 u2 l2.length (prs l2), ownA T_api_Inst 2 (.slice a1 l2.length c1) l2.length (prs l2), brA T_S_uint8 (.slice aw vs.length cw) vs (A.map recP), logA lx rx Dp.zero X, logA ly ry Dp.zero y]) l2.length rfl ⟨0, by omega, rfl, rfl, H⟩ ?_
        clear H f
        rintro n E m' ⟨k3, hk3, rfl, rfl, H⟩
        have hll : l2.length ≤ 40 := by
          have := hp1.length_eq; rw [this]; simpa [keysC] using (by omega : List.length X ≤ 40)
        simp (disch := omega) only [go_sem, undef]
        refine condB_dec (fun h5 => ?_) (fun h5 => ?_)
        · have h6 : k3 < l2.length := by omega
          refine RdS.elK (Own.rds (by decide) pc_len (H.at 1 rfl)) h6 (by decide) fun b1 o1 x hx hix hE => ?_
          have hxk : x ∈ keysC X := hp1.mem_iff.1 (List.mem_of_getElem? hx)
          have hlk := hI.2 x hxk
          simp (disch := omega) only [go_sem, undef, hix, hE.lda0]
          refine callQ H (log_Cell_s (H.at 3 rfl) x) fun M f1 H => ?_
          simp (disch := omega) only [go_sem, undef]
          refine newQ H fun b5 M f2 H => ?_
          simp (disch := omega) only [go_sem, undef]
          refine stwQ0 H rfl rfl fun M f3 H => ?_
          have hE3 : El 2 pc M b1 o1 x := RdS.elAt (Own.rds (by decide) pc_len (H.at 2 rfl)) hx (by decide) hix
          simp (disch := omega) only [go_sem, undef, hix, hE3.lda0]
          refine callQ H (log_Cell_s (H.at 5 rfl) x) fun M f1 H => ?_
          rw [hlk]
          simp (disch := omega) only [go_sem, undef]
          repeat' (first
            | ((with_reducible refine newQ H fun _ _ f H2 => ?_); clear f; clear H; have H := H2; clear H2; simp (disch := omega) only [go_sem, undef, H.cs, *])
            | ((with_reducible refine wrQ0 H fun _ f H2 => ?_); clear f; clear H; have H := H2; clear H2; simp (disch := omega) only [go_sem, undef, H.cs, *])
            | ((with_reducible refine wrQ1 H fun _ f H2 => ?_); clear f; clear H; have H := H2; clear H2; simp (disch := omega) only [go_sem, undef, H.cs, *])
            | ((with_reducible refine wrQ2 H fun _ f H2 => ?_); clear f; clear H; have H := H2; clear H2; simp (disch := omega) only [go_sem, undef, H.cs, *])
            | ((with_reducible refine wrQ3 H fun _ f H2 => ?_); clear f; clear H; have H := H2; clear H2; simp (disch := omega) only [go_sem, undef, H.cs, *])
            | ((with_reducible refine wrQ4 H fun _ f H2 => ?_); clear f; clear H; have H := H2; clear H2; simp (disch := omega) only [go_sem, undef, H.cs, *])
            | ((with_reducible refine wrQ5 H fun _ f H2 => ?_); clear f; clear H; have H := H2; clear H2; simp (disch := omega) only [go_sem, undef, H.cs, *])
            | ((with_reducible refine stwQ0 H ?hl ?h1 fun _ f H2 => ?_); (case hl => rfl); (case h1 => rfl); clear f; clear H; have H := H2; clear H2; simp (disch := omega) only [go_sem, undef, H.cs, *])
            | ((with_reducible refine stwQ1 H ?hl ?h1 fun _ f H2 => ?_); (case hl => rfl); (case h1 => rfl); clear f; clear H; have H := H2; clear H2; simp (disch := omega) only [go_sem, undef, H.cs, *])
            | ((with_reducible refine stwQ2 H ?hl ?h1 fun _ f H2 => ?_); (case hl => rfl); (case h1 => rfl); clear f; clear H; have H := H2; clear H2; simp (disch := omega) only [go_sem, undef, H.cs, *])
            | ((with_reducible refine stwQ3 H ?hl ?h1 fun _ f H2 => ?_); (case hl => rfl); (case h1 => rfl); clear f; clear H; have H := H2; clear H2; simp (disch := omega) only [go_sem, undef, H.cs, *])
            | ((with_reducible refine stwQ4 H ?hl ?h1 fun _ f H2 => ?_); (case hl => rfl); (case h1 => rfl); clear f; clear H; have H := H2; clear H2; simp (disch := omega) only [go_sem, undef, H.cs, *])
            | ((with_reducible refine stwQ5 H ?hl ?h1 fun _ f H2 => ?_); (case hl => rfl); (case h1 => rfl); clear f; clear H; have H := H2; clear H2; simp (disch := omega) only [go_sem, undef, H.cs, *])
            | ((with_reducible refine stQ0 H ?hl ?h1 fun _ f H2 => ?_); (case hl => exact Nat.le_of_ble_eq_true rfl); (case h1 => rfl); clear f; (simp only [go_sem] at H2); clear H; have H := H2; clear H2; simp (disch := omega) only [go_sem, undef, H.cs, *])
            | ((with_reducible refine stQ1 H ?hl ?h1 fun _ f H2 => ?_); (case hl => exact Nat.le_of_ble_eq_true rfl); (case h1 => rfl); clear f; (simp only [go_sem] at H2); clear H; have H := H2; clear H2; simp (disch := omega) only [go_sem, undef, H.cs, *])
            | ((with_reducible refine stQ2 H ?hl ?h1 fun _ f H2 => ?_); (case hl => exact Nat.le_of_ble_eq_true rfl); (case h1 => rfl); clear f; (simp only [go_sem] at H2); clear H; have H := H2; clear H2; simp (disch := omega) only [go_sem, undef, H.cs, *])
            | ((with_reducible refine stQ3 H ?hl ?h1 fun _ f H2 => ?_); (case hl => exact Nat.le_of_ble_eq_true rfl); (case h1 => rfl); clear f; (simp only [go_sem] at H2); clear H; have H := H2; clear H2; simp (disch := omega) only [go_sem, undef, H.cs, *])
            | ((with_reducible refine gQ_split (fun hq => ?_) (fun hq => ?_)) <;> (try simp only [Bool.not_true, Bool.not_false] at hq) <;> simp (disch := omega) only [go_sem, undef, H.cs, *])
            | ((with_reducible refine condB_split (fun hq => ?_) (fun hq => ?_)) <;> simp (disch := omega) only [go_sem, undef, H.cs, *]))
          exact handN_intro (l2.length - (k3 + 1)) (by omega) ⟨k3 + 1, by omega, rfl, rfl, H.tail.tail⟩
        · simp (disch := omega) only [go_sem, undef]
          refine callQ H (same_Inst_s (Own.rds (by decide) pc_len (H.at 1 rfl)) (Own.rds (by decide) pc_len (H.at 0 rfl)) (by omega) (by omega)) fun M f H => ?_
          simp (disch := omega) only [go_sem, undef]
          refine callQ H (log_Top_q (H.at 3 rfl) hkk) fun M f H => ?_
          simp (disch := omega) only [go_sem, undef]
          refine callQ H (log_Top_q (H.at 4 rfl) (by unfold KeysOk; rw [hI.1]; exact hkk)) fun M f H => ?_
          rw [hI.1]
          simp (disch := omega) only [go_sem, undef]
          refine callQ H (law_Runs_s _) fun M f H => ?_
          simp (disch := omega) only [go_sem, undef]
          exact ⟨rfl, H.fr⟩
end Go.Fw
