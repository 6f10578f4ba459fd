import Derived.Test.YthmfahaebogibaaEw3
import Derived.Test.YthmfahaebogibaaPl
set_option linter.unusedVariables false
set_option linter.unusedSimpArgs false
set_option linter.unusedSimpArgs false
set_option linter.unusedVariables false
namespace Go.Fw
open Go.Proofs
abbrev RunsOk : Prop := ∀ m : Mem, MC Try.prog n_law20_ExecRuns [] m fun v M => v = .bool true ∧ Fr m M []
/-- the deps so far -/
def dwJ (d : Dp) (j : Nat) : Dp := fun r => if r.val < j then wi (d r) 0 5 else d r
def dw5 (d : Dp) : Dp := fun r => wi (d r) 0 5
theorem dwJ_7 (d : Dp) : dwJ d 7 = dw5 d := funext fun r => by simp only [dwJ, dw5, r.isLt, if_true]
theorem dwJ_0 (d : Dp) : dwJ d 0 = d := funext fun r => by simp [dwJ]
theorem dwJ_g (d : Dp) {j : Nat} (h : j < 7) : (dwJ d j).g j = d.g j := by simp [Dp.g_lt _ h, dwJ]
theorem dwJ_up (d : Dp) {j : Nat} (h : j < 7) : (dwJ d j).up j (wi (d.g j) 0 5) = dwJ d (j + 1) := funext fun r => by
  by_cases e : r.val = j
  · subst e; simp [Dp.up, dwJ, d.g_fin r]
  · simp only [Dp.up, dwJ, e, if_false]
    by_cases h2 : r.val < j
    · rw [if_pos h2]; rw [if_pos (show r.val < j + 1 by omega)]
    · rw [if_neg h2]; rw [if_neg (show ¬ r.val < j + 1 by omega)]
theorem dw5_in (d : Dp) : ∀ r, r < 7 → 0 ≤ (dw5 d).g r ∧ (dw5 d).g r ≤ 1000 := fun r hr => by
  have := wi_in (n := d ⟨r, hr⟩) (lo := 0) (hi := 5) (by omega)
  rw [Dp.g_lt _ hr]; simp only [dw5]; omega
set_option maxHeartbeats 8000000 in
theorem law_Twice_s (hRuns : RunsOk) {m : Mem} {d : Dp} {R : List Kn} {sv : Value} (hd : okD d) (hR : RdS 23 knE m sv R) (hok : ∀ p ∈ R, okK p) (hl : R.length ≤ 9223372036854775807) :
    MC Try.prog n_law20_ExecTwice [d.v, sv] m fun v M => v = .bool true ∧ Fr m M [] := by
  refine law20_ExecTwice_go (by simp [Try.f33]) ?_
  have H := Hq.refl m []
  simp (disch := omega) only [go_sem, undef]
  refine newQ H fun b2 M f H => ?_
  simp (disch := omega) only [go_sem, undef]
  refine callN H (law_few_s (hR.frame f) hok hl 30 (by omega)) fun u M A e f H => ?_
  subst e
  simp (disch := omega) only [go_sem, undef]
  have hq : dwJ d 0 = d := dwJ_0 d
  refine loopQ_intro (fun k E m' => ∃ r, r ≤ 7 ∧ k = 7 - r ∧ E = [(1, u), (2, .pointer (some ⟨b2, 0, none⟩)), (5, .int .i64 (r : Nat))] ∧
    Hq m m' [] [ownA 40 23 u (fewL R 30).length ((fewL R 30).flatMap knE), cellA b2 (.cells (dv (dwJ d r)).toArray 30 (0, 0))]) 7 rfl ⟨0, by omega, rfl, rfl, by rw [hq]; exact H⟩ ?_
  clear H f
  rintro k E m' ⟨r, hr, rfl, rfl, H⟩
  simp (disch := omega) only [go_sem, undef]
  refine condB_dec (fun hr7 => ?_) (fun hr7 => ?_)
  · have hr7 : r < 7 := by omega
    have hdr : R64 (d.g r) := by rw [Dp.g_lt _ hr7]; exact hd _
    simp (disch := omega) only [go_sem, undef, H.cs, dwJ_g _ hr7]
    refine callQ H (book_Within_s (d.g r) 0 5 hdr (by omega) (by omega) (by omega) _) fun M f H => ?_
    simp (disch := omega) only [go_sem, undef, H.cs]
    refine wrQ1 H fun M f H => ?_
    simp (disch := omega) only [go_sem, undef]
    exact handN_intro (7 - (r + 1)) (by omega) ⟨r + 1, by omega, rfl, rfl, by rw [← dwJ_up _ hr7]; exact H⟩
  · have e : r = 7 := by omega
    subst e
    rw [dwJ_7] at H
    have hd0 := dw5_in d
    generalize dw5 d = d0 at *
    have hlow := fewL_low (l := R) (n := 30)
    have hlen := fewL_len R 30
    generalize fewL R 30 = R at *
    simp (disch := omega) only [go_sem, undef, H.cs]
    have hRS : ∀ {M : Mem}, Own M 40 23 u R.length (R.flatMap knE) → RdS 23 knE M u R := fun h => Own.rds (by decide) knE_len h
    refine callN H (exec_Plan_q (hRS (H.at 0 rfl)) (by omega) hlow hd0) fun v M A ⟨a, b, e1, e2⟩ f H => ?_
    subst e1
    subst e2
    have H := H.split
    simp (disch := omega) only [go_sem, undef, H.cs]
    refine newQ H fun b8 M f H => ?_
    simp (disch := omega) only [go_sem, undef]
    refine stwQ0 H rfl rfl fun M f H => ?_
    have T := twice_plain (plC_low hlow) d0
    have hlenC : (plC R).length ≤ 30 := Nat.le_trans (plC_PC R).len hlen
    have hLC := plC_low hlow
    have hKb : ((planL (plC R) d0).1).length ≤ 30 := Nat.le_trans (plan_len _ _) hlenC
    have hXb := plan_mis (plC R) d0
    have hd1 := plan_bd hLC hd0
    have hPq : ∀ {M : Mem}, Own M 40 23 u R.length (R.flatMap knE) → ∀ d0, (∀ r, r < 7 → 0 ≤ Dp.g d0 r ∧ Dp.g d0 r ≤ 1000) → CN Try.prog n_exec_Plan [d0.v, u] M fun v A => ∃ a b, v = .tuple #[a, b] ∧ A = planR a b (plC R) d0 := fun h d0 hd => exec_Plan_q (hRS h) (by omega) hlow hd
    generalize plC R = C at *
    obtain ⟨P1, hP1⟩ : ∃ P1, P1 = (planL C d0).1 := ⟨_, rfl⟩
    obtain ⟨X1, hX1⟩ : ∃ X1, X1 = (planL C d0).2 := ⟨_, rfl⟩
    rw [← hP1, ← hX1] at T H
    rw [← hP1] at hd1 hKb
    rw [← hX1] at hXb
    have hX1l : X1.length ≤ 1000 := by omega
    have hK := kmap_get C P1
    have hKl := kmap_len C P1
    generalize kmap C P1 = K at *
    refine Own.formK (H.at 1 rfl) fun aa ac ea => ?_
    subst ea
    simp (disch := omega) only [go_sem, undef]
    refine loopQ_intro (fun k E m' => ∃ j, j ≤ K.length ∧ k = K.length - j ∧ E = [(1, u), (2, .pointer (some ⟨b2, 0, none⟩)), (6, .slice aa K.length ac), (7, b), (8, .pointer (some ⟨b8, 0, none⟩)), (9, .int .i64 (j : Nat))] ∧
      Hq m m' [] [cellA b8 (.cells (dv (upD d0 (P1.take j))).toArray 30 (0, 0)), ownA 40 23 (.slice aa K.length ac) K.length (K.flatMap knE), ownA T_api_Inst 2 b X1.length (prs X1), ownA 40 23 u R.length (R.flatMap knE), cellA b2 (.cells (dv d0).toArray 30 (0, 0))]) K.length rfl ⟨0, by omega, rfl, rfl, H⟩ ?_
    clear H f
    rintro k E m' ⟨j, hj, rfl, rfl, H⟩
    simp (disch := omega) only [go_sem, undef]
    refine condB_dec (fun hjl => ?_) (fun hjl => ?_)
    · have hjl : j < K.length := by omega
      have hKR : RdS 23 knE m' (.slice aa K.length ac) K := Own.rds (by decide) knE_len (H.at 1 rfl)
      refine RdS.elK hKR hjl (by decide) fun bx o p hp hix hE => ?_
      have hjP : j < P1.length := by omega
      have hPj : P1[j]? = some P1[j] := List.getElem?_eq_getElem hjP
      rw [hK j, hPj] at hp
      generalize P1[j] = i at hPj hp
      have hi := T.1 i (List.mem_of_getElem? hPj)
      have hpe : p = (i, (lkC i C).getD Cel.zero) := (Option.some.inj hp).symm
      subst hpe
      generalize (lkC i C).getD Cel.zero = c at *
      obtain ⟨i1, i2⟩ := i
      obtain ⟨r, rfl⟩ := Int.eq_ofNat_of_zero_le hi.1.1
      have hr7 : r < 7 := by have := hi.1.2; simp only at this; omega
      have hlt : ¬ i2 ≤ d0.g r := by have := hi.2; simp only [Int.toNat_natCast] at this; omega
      simp (disch := omega) only [go_sem, undef, hix, hE.ld, hE.ld0, H.cs, dec_f hlt]
      refine wrQ0 H fun M f H => ?_
      simp (disch := omega) only [go_sem, undef]
      exact handN_intro (K.length - (j + 1)) (by omega) ⟨j + 1, by omega, rfl, rfl, by
        rw [List.take_add_one, hPj, Option.toList_some, upD_snoc]; exact H⟩
    · have e : j = K.length := by omega
      subst e
      rw [hKl, List.take_length, ← hKl] at H
      simp (disch := omega) only [go_sem, undef, H.cs]
      refine callN H (hPq (H.at 3 rfl) (upD d0 P1) hd1) fun v M A ⟨a', b', e1, e2⟩ f H => ?_
      subst e1
      subst e2
      have H := H.split
      rw [T.2] at H
      refine Own.formK (H.at 0 rfl) fun aa' ac' ea => ?_
      subst ea
      have hXR : ∀ {M : Mem} {v : Value}, Own M T_api_Inst 2 v X1.length (prs X1) → RdS 2 pc M v X1 := fun h => Own.rds (by decide) pc_len h
      simp (disch := omega) only [go_sem, undef, dec_t (show ((kmap C ([] : List I2)).length : Int) = 0 from rfl)]
      refine callQ H (same_Inst_s (hXR (H.at 4 rfl)) (hXR (H.at 1 rfl)) hX1l) fun M f H => ?_
      simp (disch := omega) only [go_sem, undef, dec_t (show X1 = X1 from rfl)]
      refine callQ H (hRuns _) fun M f H => ?_
      simp (disch := omega) only [go_sem, undef]
      exact ⟨rfl, H.fr⟩
end Go.Fw

set_option linter.unusedSimpArgs false
set_option linter.unusedVariables false
namespace Go.Fw
open Go.Proofs
abbrev ic (n : Int) : List Value := [.int .i64 n]
def dpL (l : List Int) (j : Nat) : Dp := fun i => if i.val < j then l.getD i.val 0 else 0
theorem dpL_0 (l : List Int) : dpL l 0 = Dp.zero := funext fun i => by simp [dpL]
theorem dpL_up (l : List Int) {j : Nat} {x : Int} (h : l[j]? = some x) : (dpL l j).up j x = dpL l (j + 1) := funext fun q => by
  by_cases e : q.val = j
  · subst e; simp [Dp.up, dpL, List.getD_eq_getElem?_getD, h]
  · simp only [Dp.up, dpL, e, if_false]
    by_cases h2 : q.val < j
    · rw [if_pos h2, if_pos (show q.val < j + 1 by omega)]
    · rw [if_neg h2, if_neg (show ¬ q.val < j + 1 by omega)]
def knC (q : Int) (d : Dp) : Cel := { Cel.zero with st := 3, att := ⟨q, d⟩ }
theorem knC_lay (q : Int) (d : Dp) : lay Cel.zero.cs [(0, 1), (12, 8)] [Value.int IntKind.i64 3, Value.agg (Att.mk q d).cs.toArray] = some (knC q d).cs := rfl
set_option maxHeartbeats 8000000 in
theorem law_known_s {m : Mem} {sv : Value} {l : List Int} (hd : RdS 1 ic m sv l) (hl : l.length ≤ 7) (r s q : Int) :
    MC Try.prog n_law20_known [.int .i64 r, .int .i64 s, .int .i64 q, sv] m fun v M => v = .agg (knE ((r, s), knC q (dpL l l.length))).toArray ∧ Fr m M [] := by
  obtain ⟨sa, sc, esv⟩ := hd.form
  subst esv
  refine law20_known_go (by simp [Try.f33]) ?_
  have H := Hq.refl m []
  simp (disch := omega) only [go_sem, undef]
  refine newQ H fun b8 M f H => ?_
  simp (disch := omega) only [go_sem, undef]
  refine newQ H fun b9 M f H => ?_
  simp (disch := omega) only [go_sem, undef]
  refine stwQ0 H rfl rfl fun M f H => ?_
  simp (disch := omega) only [go_sem, undef]
  have hq : (Att.mk q Dp.zero).cs = (Att.mk q (dpL l 0)).cs := by rw [dpL_0]
  refine loopQ_intro (fun z E m' => ∃ j, j ≤ l.length ∧ z = l.length - j ∧ E = [(0, .int .i64 r), (1, .int .i64 s), (3, .slice sa l.length sc), (8, .pointer (some ⟨b8, 0, none⟩)), (9, .pointer (some ⟨b9, 0, none⟩)), (10, .int .i64 (j : Nat))] ∧
    Hq m m' [] [cellA b9 (.cells (Att.mk q (dpL l j)).cs.toArray 36 (0, 0)), cellA b8 (.cells (knE ((0, 0), Cel.zero)).toArray 40 (0, 0))]) l.length rfl ⟨0, by omega, rfl, rfl, by rw [← hq]; exact H⟩ ?_
  clear H f
  rintro z E m' ⟨j, hj, rfl, rfl, H⟩
  by_cases hjl : j < l.length
  · refine RdS.elK (hd.frame H.fr) hjl (by decide) fun bx o x hx hix hE => ?_
    simp (disch := omega) only [go_sem, undef, dec_t (show (j : Int) < (l.length : Nat) by omega), dec_t (show (j : Int) < 7 by omega), hix, hE.ld0, H.cs]
    refine wrQ0 H fun M f H => ?_
    simp (disch := omega) only [go_sem, undef]
    exact handN_intro (l.length - (j + 1)) (by omega) ⟨j + 1, by omega, rfl, rfl, by rw [← dpL_up l hx]; exact H⟩
  · have e : j = l.length := by omega
    subst e
    simp (disch := omega) only [go_sem, undef, dec_f (show ¬ (l.length : Int) < (l.length : Nat) by omega), H.cs, knC_lay, knc_bld]
    refine stwQ1 H rfl rfl fun M f H => ?_
    have hx : ∀ c, pc (r, s) ++ c.cs = knE ((r, s), c) := fun _ => rfl
    rw [hx] at H
    simp (disch := omega) only [go_sem, undef, H.cs]
    exact ⟨rfl, H.fr⟩
theorem law_at_s (r s : Int) (m : Mem) : MC Try.prog n_law20_ExecRuns_c1 [.int .i64 r, .int .i64 s] m fun v M => v = pv (r, s) ∧ Fr m M [] := by
  refine law20_ExecRuns_c1_go (by simp [Try.f33]) ?_
  have H := Hq.refl m []
  simp (disch := omega) only [go_sem, undef]
  refine newQ H fun b4 M f H => ?_
  simp (disch := omega) only [go_sem, undef]
  refine stwQ0 H rfl rfl fun M f H => ?_
  simp (disch := omega) only [go_sem, undef, H.cs]
  exact ⟨rfl, H.fr⟩
theorem two_lay (x y : Kn) : ((spl 0 (knE x) [Value.int .i64 0, Value.int .i64 0, Value.int .i64 0, Value.int .i64 0, Value.int .i64 0, Value.int .i64 0, Value.int .i64 0, Value.int .i64 0, Value.int .i64 0, Value.int .i64 0, Value.string { data := #[] }, Value.string { data := #[] }, Value.string { data := #[] }, Value.string { data := #[] }, Value.int .i64 0, Value.int .i64 0, Value.int .i64 0, Value.int .i64 0, Value.int .i64 0, Value.int .i64 0, Value.int .i64 0, Value.int .i64 0, Value.bool false, Value.int .i64 0, Value.int .i64 0, Value.int .i64 0, Value.int .i64 0, Value.int .i64 0, Value.int .i64 0, Value.int .i64 0, Value.int .i64 0, Value.int .i64 0, Value.int .i64 0, Value.string { data := #[] }, Value.string { data := #[] }, Value.string { data := #[] }, Value.string { data := #[] }, Value.int .i64 0, Value.int .i64 0, Value.int .i64 0, Value.int .i64 0, Value.int .i64 0, Value.int .i64 0, Value.int .i64 0, Value.int .i64 0, Value.bool false]).bind fun cs => lay cs [(23, 23)] [.agg (knE y).toArray]) = some (knE x ++ knE y) := by kernel_rfl
theorem three_lay (x y z : Kn) : ((spl 0 (knE x) [Value.int .i64 0, Value.int .i64 0, Value.int .i64 0, Value.int .i64 0, Value.int .i64 0, Value.int .i64 0, Value.int .i64 0, Value.int .i64 0, Value.int .i64 0, Value.int .i64 0, Value.string { data := #[] }, Value.string { data := #[] }, Value.string { data := #[] }, Value.string { data := #[] }, Value.int .i64 0, Value.int .i64 0, Value.int .i64 0, Value.int .i64 0, Value.int .i64 0, Value.int .i64 0, Value.int .i64 0, Value.int .i64 0, Value.bool false, Value.int .i64 0, Value.int .i64 0, Value.int .i64 0, Value.int .i64 0, Value.int .i64 0, Value.int .i64 0, Value.int .i64 0, Value.int .i64 0, Value.int .i64 0, Value.int .i64 0, Value.string { data := #[] }, Value.string { data := #[] }, Value.string { data := #[] }, Value.string { data := #[] }, Value.int .i64 0, Value.int .i64 0, Value.int .i64 0, Value.int .i64 0, Value.int .i64 0, Value.int .i64 0, Value.int .i64 0, Value.int .i64 0, Value.bool false, Value.int .i64 0, Value.int .i64 0, Value.int .i64 0, Value.int .i64 0, Value.int .i64 0, Value.int .i64 0, Value.int .i64 0, Value.int .i64 0, Value.int .i64 0, Value.int .i64 0, Value.string { data := #[] }, Value.string { data := #[] }, Value.string { data := #[] }, Value.string { data := #[] }, Value.int .i64 0, Value.int .i64 0, Value.int .i64 0, Value.int .i64 0, Value.int .i64 0, Value.int .i64 0, Value.int .i64 0, Value.int .i64 0, Value.bool false]).bind fun cs => lay cs [(23, 23), (46, 23)] [.agg (knE y).toArray, .agg (knE z).toArray]) = some (knE x ++ (knE y ++ knE z)) := by kernel_rfl
theorem two_ilay (x y : I2) : ((spl 0 (pc x) [Value.int .i64 0, Value.int .i64 0, Value.int .i64 0, Value.int .i64 0]).bind fun cs => lay cs [(2, 2)] [.agg (pc y).toArray]) = some (pc x ++ pc y) := by kernel_rfl
theorem low1 : ∀ p ∈ L1, LowK p := fun p hp => by
  simp only [List.mem_cons, List.not_mem_nil, or_false] at hp
  rcases hp with rfl | rfl <;> exact ⟨by decide, by decide, by decide +kernel⟩
theorem low2 : ∀ p ∈ L2, LowK p := fun p hp => by
  simp only [List.mem_cons, List.not_mem_nil, or_false] at hp
  subst hp; exact ⟨by decide, by decide, by decide +kernel⟩
theorem low3 : ∀ p ∈ L3, LowK p := fun p hp => by
  simp only [List.mem_cons, List.not_mem_nil, or_false] at hp
  rcases hp with rfl | rfl | rfl <;> exact ⟨by decide, by decide, by decide +kernel⟩
theorem pl1 : planL (plC L1) Dp.zero = ([(1, 1), (0, 1)], []) := by rw [plC_self (by decide) (by decide)]; exact plan_1
theorem pl2 : planL (plC L2) Dp.zero = ([], [(1, 1)]) := by rw [plC_self (by decide) (by decide)]; exact plan_2
theorem pl3 : planL (plC L3) Dp.zero = ([(0, 1)], [(2, 1)]) := by rw [plC_self (by decide) (by decide)]; exact plan_3
set_option maxHeartbeats 8000000 in
theorem law_Runs_s : RunsOk := by
  intro m
  refine law20_ExecRuns_go (by simp [Try.f33]) ?_
  have H := Hq.refl m []
  have hz : ∀ r, r < 7 → 0 ≤ Dp.zero.g r ∧ Dp.zero.g r ≤ 1000 := fun r _ => by rw [Dp.zero_g]; omega
  simp (disch := omega) only [go_sem, undef]
  refine newQ H fun b1 M f H => ?_
  have H := H.toRow 1 2 2 rfl (by omega)
  simp (disch := omega) only [go_sem, undef]
  refine callQ H (law_known_s (l := [0, 1]) (Own.rdsN (by decide) (fun _ => rfl) rfl (H.at 0 rfl)) (by decide) 0 1 2) fun M f H => ?_
  have H := dropQ0 H
  simp (disch := omega) only [go_sem, undef]
  refine newQ H fun b2 M f H => ?_
  have H := H.toRow 1 1 1 rfl (by omega)
  simp (disch := omega) only [go_sem, undef]
  refine callQ H (law_known_s (l := [1]) (Own.rdsN (by decide) (fun _ => rfl) rfl (H.at 0 rfl)) (by decide) 1 1 1) fun M f H => ?_
  have H := dropQ0 H
  simp (disch := omega) only [go_sem, undef, two_lay]
  refine newQ H fun b3 M f H => ?_
  have hL : knE ((0, 1), knC 2 (dpL [0, 1] 2)) ++ knE ((1, 1), knC 1 (dpL [1] 1)) = L1.flatMap knE := rfl
  rw [hL] at H
  have H := H.toRow 23 2 2 (by rw [fm_len knE_len]; rfl) (by omega)
  have hT : (L1.flatMap knE).take (2 * 23) = L1.flatMap knE := rfl
  rw [hT] at H
  simp (disch := omega) only [go_sem, undef]
  refine callN H (exec_Plan_q (d0 := Dp.zero) (R := L1) (Own.rdsN (by decide) knE_len rfl (H.at 0 rfl)) (by decide) low1 hz) fun v M A ⟨a, b, e1, e2⟩ f H => ?_
  subst e1
  subst e2
  have H := (H.split).drop 2
  rw [pl1] at H
  obtain ⟨K1, hK1⟩ : ∃ K1, K1 = kmap (plC L1) [(1, 1), (0, 1)] := ⟨_, rfl⟩
  have h1l : K1.length = 2 := by rw [hK1]; rfl
  have h1m : K1.map Prod.fst = [(1, 1), (0, 1)] := by rw [hK1]; rfl
  have H : Hq m M [] [ownA 40 23 a 2 (K1.flatMap knE), ownA T_api_Inst 2 b 0 (prs [])] := by
    subst hK1; exact H
  clear hK1
  simp (disch := omega) only [go_sem, undef]
  refine newQ H fun b1 M f H => ?_
  have H := H.toRow 1 2 2 rfl (by omega)
  simp (disch := omega) only [go_sem, undef]
  refine callQ H (law_known_s (l := [0, 1]) (Own.rdsN (by decide) (fun _ => rfl) rfl (H.at 0 rfl)) (by decide) 0 1 2) fun M f H => ?_
  have H := dropQ0 H
  simp (disch := omega) only [go_sem, undef]
  refine newQ H fun b3 M f H => ?_
  have hL : knE ((0, 1), knC 2 (dpL [0, 1] 2)) = L2.flatMap knE := rfl
  rw [hL] at H
  have H := H.toRow 23 1 1 (by rw [fm_len knE_len]; rfl) (by omega)
  have hT : (L2.flatMap knE).take (1 * 23) = L2.flatMap knE := rfl
  rw [hT] at H
  simp (disch := omega) only [go_sem, undef]
  refine callN H (exec_Plan_q (d0 := Dp.zero) (R := L2) (Own.rdsN (by decide) knE_len rfl (H.at 0 rfl)) (by decide) low2 hz) fun v M A ⟨a2, b2, e1, e2⟩ f H => ?_
  subst e1
  subst e2
  have H := (H.split).drop 2
  rw [pl2] at H
  obtain ⟨K2, hK2⟩ : ∃ K2, K2 = kmap (plC L2) [] := ⟨_, rfl⟩
  have H : Hq m M [] [ownA 40 23 a2 0 (K2.flatMap knE), ownA T_api_Inst 2 b2 1 (prs [(1, 1)]), ownA 40 23 a 2 (K1.flatMap knE), ownA T_api_Inst 2 b 0 (prs [])] := by
    subst hK2; exact H
  clear hK2
  simp (disch := omega) only [go_sem, undef]
  refine callQ H (law_known_s (l := []) (sv := .slice none 0 0) ⟨fun _ => rfl, none, 0, rfl, Nat.le_refl _, .inl rfl⟩ (by decide) 0 1 0) fun M f H => ?_
  simp (disch := omega) only [go_sem, undef]
  refine newQ H fun b1 M f H => ?_
  have H := H.toRow 1 2 2 rfl (by omega)
  simp (disch := omega) only [go_sem, undef]
  refine callQ H (law_known_s (l := [0, 1]) (Own.rdsN (by decide) (fun _ => rfl) rfl (H.at 0 rfl)) (by decide) 0 2 0) fun M f H => ?_
  have H := dropQ0 H
  simp (disch := omega) only [go_sem, undef]
  refine newQ H fun b1 M f H => ?_
  have H := H.toRow 1 3 3 rfl (by omega)
  simp (disch := omega) only [go_sem, undef]
  refine callQ H (law_known_s (l := [0, 0, 1]) (Own.rdsN (by decide) (fun _ => rfl) rfl (H.at 0 rfl)) (by decide) 1 1 0) fun M f H => ?_
  have H := dropQ0 H
  simp (disch := omega) only [go_sem, undef, three_lay]
  refine newQ H fun b3 M f H => ?_
  have hL : knE ((0, 1), knC 0 (dpL [] 0)) ++ (knE ((0, 2), knC 0 (dpL [0, 1] 2)) ++ knE ((1, 1), knC 0 (dpL [0, 0, 1] 3))) = L3.flatMap knE := rfl
  rw [hL] at H
  have H := H.toRow 23 3 3 (by rw [fm_len knE_len]; rfl) (by omega)
  have hT : (L3.flatMap knE).take (3 * 23) = L3.flatMap knE := rfl
  rw [hT] at H
  simp (disch := omega) only [go_sem, undef]
  refine callN H (exec_Plan_q (d0 := Dp.zero) (R := L3) (Own.rdsN (by decide) knE_len rfl (H.at 0 rfl)) (by decide) low3 hz) fun v M A ⟨a3, b3, e1, e2⟩ f H => ?_
  subst e1
  subst e2
  have H := (H.split).drop 2
  rw [pl3] at H
  obtain ⟨K3, hK3⟩ : ∃ K3, K3 = kmap (plC L3) [(0, 1)] := ⟨_, rfl⟩
  have h3l : K3.length = 1 := by rw [hK3]; rfl
  have h3m : K3.map Prod.fst = [(0, 1)] := by rw [hK3]; rfl
  have H : Hq m M [] [ownA 40 23 a3 1 (K3.flatMap knE), ownA T_api_Inst 2 b3 1 (prs [(2, 1)]), ownA 40 23 a2 0 (K2.flatMap knE), ownA T_api_Inst 2 b2 1 (prs [(1, 1)]), ownA 40 23 a 2 (K1.flatMap knE), ownA T_api_Inst 2 b 0 (prs [])] := by
    subst hK3; exact H
  clear hK3
  simp (disch := omega) only [go_sem, undef]
  refine callN H (law_ids_s (Own.rdsN (by decide) knE_len h1l (H.at 4 rfl)) (by omega)) fun v M A e f H => ?_
  rw [h1m] at e
  subst e
  simp (disch := omega) only [go_sem, undef]
  have hc9 : callable Try.prog 9 = true := by kernel_rfl
  simp (disch := omega) only [go_sem, undef, xs_callv, hc9]
  refine callQ H (law_at_s 1 1 _) fun M f H => ?_
  simp (disch := omega) only [go_sem, undef, xs_callv, hc9]
  refine callQ H (law_at_s 0 1 _) fun M f H => ?_
  simp (disch := omega) only [go_sem, undef, two_ilay]
  refine newQ H fun b11 M f H => ?_
  have hp : pc (1, 1) ++ pc (0, 1) = prs [(1, 1), (0, 1)] := rfl
  rw [hp] at H
  have H := H.toRow 2 2 2 (by rw [prs_len]; rfl) (by omega)
  have hT : (prs [((1 : Int), (1 : Int)), (0, 1)]).take (2 * 2) = prs [(1, 1), (0, 1)] := rfl
  rw [hT] at H
  simp (disch := omega) only [go_sem, undef]
  refine callQ H (same_Inst_s (A := [(1, 1), (0, 1)]) (B := [(1, 1), (0, 1)]) (Own.rdsN (by decide) pc_len rfl (H.at 1 rfl)) (Own.rdsN (by decide) pc_len rfl (H.at 0 rfl)) (by decide)) fun M f H => ?_
  have H := (H.drop 0).drop 0
  refine Own.formK (H.at 0 rfl) fun a3a a3c ea => ?_
  subst ea
  refine Own.formK (H.at 1 rfl) fun b3a b3c ea => ?_
  subst ea
  refine Own.formK (H.at 2 rfl) fun a2a a2c ea => ?_
  subst ea
  refine Own.formK (H.at 3 rfl) fun b2a b2c ea => ?_
  subst ea
  refine Own.formK (H.at 5 rfl) fun ba bc ea => ?_
  subst ea
  have h00 : ((0 : Nat) : Int) = 0 := rfl
  have htt : decide ([((1 : Int), (1 : Int)), (0, 1)] = [(1, 1), (0, 1)]) = true := by decide
  simp (disch := omega) only [go_sem, undef, xs_callv, hc9, htt, dec_t h00]
  refine callQ H (law_at_s 1 1 _) fun M f H => ?_
  simp (disch := omega) only [go_sem, undef]
  refine newQ H fun b12 M f H => ?_
  have H := H.toRow 2 1 1 rfl (by omega)
  simp (disch := omega) only [go_sem, undef]
  refine callQ H (same_Inst_s (A := [(1, 1)]) (B := [(1, 1)]) (Own.rdsN (by decide) pc_len rfl (H.at 4 rfl)) (Own.rdsN (by decide) pc_len rfl (H.at 0 rfl)) (by decide)) fun M f H => ?_
  have H := H.drop 0
  have ht1 : decide ([((1 : Int), (1 : Int))] = [(1, 1)]) = true := by decide
  simp (disch := omega) only [go_sem, undef, ht1]
  refine callN H (law_ids_s (Own.rdsN (by decide) knE_len h3l (H.at 0 rfl)) (by omega)) fun v M A e f H => ?_
  rw [h3m] at e
  subst e
  simp (disch := omega) only [go_sem, undef, xs_callv, hc9]
  refine callQ H (law_at_s 0 1 _) fun M f H => ?_
  simp (disch := omega) only [go_sem, undef]
  refine newQ H fun b13 M f H => ?_
  have H := H.toRow 2 1 1 rfl (by omega)
  simp (disch := omega) only [go_sem, undef]
  refine callQ H (same_Inst_s (A := [(0, 1)]) (B := [(0, 1)]) (Own.rdsN (by decide) pc_len rfl (H.at 1 rfl)) (Own.rdsN (by decide) pc_len rfl (H.at 0 rfl)) (by decide)) fun M f H => ?_
  have H := (H.drop 0).drop 0
  have ht2 : decide ([((0 : Int), (1 : Int))] = [(0, 1)]) = true := by decide
  simp (disch := omega) only [go_sem, undef, xs_callv, hc9, ht2]
  refine callQ H (law_at_s 2 1 _) fun M f H => ?_
  simp (disch := omega) only [go_sem, undef]
  refine newQ H fun b14 M f H => ?_
  have H := H.toRow 2 1 1 rfl (by omega)
  simp (disch := omega) only [go_sem, undef]
  refine callQ H (same_Inst_s (A := [(2, 1)]) (B := [(2, 1)]) (Own.rdsN (by decide) pc_len rfl (H.at 2 rfl)) (Own.rdsN (by decide) pc_len rfl (H.at 0 rfl)) (by decide)) fun M f H => ?_
  have ht3 : decide ([((2 : Int), (1 : Int))] = [(2, 1)]) = true := by decide
  simp (disch := omega) only [go_sem, undef, ht3]
  exact ⟨rfl, H.fr⟩
end Go.Fw

set_option linter.unusedSimpArgs false
set_option linter.unusedVariables false
namespace Go.Fw
open Go.Proofs
/-- a place of a row of one's own is written -/
theorem Own.rowK {G : Prop} {m : Mem} {t : TypeId} {size n : Nat} {v : Value} {xs : List Value} (h : Own m t size v n xs) (hn : 0 < n)
    (K : ∀ b cap tail, v = .slice (some ⟨b, 0, none⟩) n cap → m b = some (.cells (xs ++ tail).toArray t (0, 0)) → (xs ++ tail).length = cap * size → G) : G := by
  rcases h.2 with ⟨rfl, rfl⟩ | ⟨b, cap, tail, rfl, hb, hl⟩
  · omega
  · exact K b cap tail rfl hb hl
theorem Hq.toCell {m0 m : Mem} {S : List Nat} {L : List As} {t : TypeId} {size n b cap : Nat} {xs tail : List Value} (H : Hq m0 m S (ownA t size (.slice (some ⟨b, 0, none⟩) n cap) n xs :: L)) (hb : m b = some (.cells (xs ++ tail).toArray t (0, 0))) :
    Hq m0 m S (cellA b (.cells (xs ++ tail).toArray t (0, 0)) :: L) :=
  H.rep0 (A' := cellA b (.cells (xs ++ tail).toArray t (0, 0))) (by with_unfolding_all exact hb) (Fr.refl _ _) (fun x hx => .inl (by simpa [blkOf] using hx)) (fun x hx => .inl (by simpa [blkOf] using hx))
theorem Hq.ofCell {m0 m : Mem} {S : List Nat} {L : List As} {t : TypeId} {size n b cap : Nat} {xs tail : List Value} (H : Hq m0 m S (cellA b (.cells (xs ++ tail).toArray t (0, 0)) :: L)) (hx : xs.length = n * size) (hl : (xs ++ tail).length = cap * size) :
    Hq m0 m S (ownA t size (.slice (some ⟨b, 0, none⟩) n cap) n xs :: L) :=
  H.rep0 (A' := ownA t size (.slice (some ⟨b, 0, none⟩) n cap) n xs) ⟨hx, .inr ⟨b, cap, tail, rfl, by have h := H.hs.1; with_unfolding_all exact h, hl⟩⟩ (Fr.refl _ _) (fun x hx => .inl (by simpa [blkOf] using hx)) (fun x hx => .inl (by simpa [blkOf] using hx))
theorem kn_set {R : List Kn} {j : Nat} {p : Kn} (h : R[j]? = some p) (tail : List Value) (x : Value) (q : Kn) (c : Nat) (hc : c < 23) (hq : (knE p).set c x = knE q) : ((R.flatMap knE) ++ tail).set (j * 23 + c) x = (R.set j q).flatMap knE ++ tail := by
  induction R generalizing j with
  | nil => simp at h
  | cons y r ih =>
    cases j with
    | zero =>
      simp only [List.getElem?_cons_zero, Option.some.injEq] at h
      subst h
      rw [List.flatMap_cons, List.append_assoc, List.set_cons_zero, List.flatMap_cons, List.append_assoc, List.set_append_left _ _ (by rw [knE_len]; omega)]
      rw [Nat.zero_mul, Nat.zero_add, hq]
    | succ j =>
      rw [List.getElem?_cons_succ] at h
      rw [List.flatMap_cons, List.append_assoc, List.set_cons_succ, List.flatMap_cons, List.append_assoc, List.set_append_right _ _ (by rw [knE_len]; omega), knE_len]
      rw [show (j + 1) * 23 + c - 23 = j * 23 + c by omega, ih h]
theorem both_cut {P : Program} {Lf : Nat → Value} {m : Mem} {a b : ET} {σ : Env} {K : Env → Mem → Prop} {l : Lk (etP P Lf a σ m K)} {l' : Lk (etP P Lf b σ m K)} (J : Env → Mem → Prop) (hK : ∀ E M, J E M → K E M) (h : etP P Lf (.both a b) σ m J) : both (etP P Lf a σ m K) (etP P Lf b σ m K) l l' := etP_mono hK _ _ _ h
theorem IxAt.inj {k i b o b' o' : Nat} {v : Value} (h : IxAt k v i b o) (h' : IxAt k v i b' o') : b' = b ∧ o' = o := by
  have := (h .i64 fun _ => none).symm.trans (h' .i64 fun _ => none)
  simp only [Option.some.injEq, Value.pointer.injEq, Addr.mk.injEq, and_true] at this
  exact ⟨this.1.symm, this.2.symm⟩
set_option maxHeartbeats 8000000 in
theorem law_Same_s (hRuns : RunsOk) {m : Mem} {R : List Kn} {sv : Value} (hR : RdS 23 knE m sv R) (hok : ∀ p ∈ R, okK p) (hl : R.length ≤ 9223372036854775807) {T : List Int} {tv : Value} (hT : RdS 1 ic m tv T) (hTok : ∀ x ∈ T, R64 x) (hTl : T.length ≤ 9223372036854775807) :
    MC Try.prog n_law20_ExecSame [sv, tv] m fun v M => v = .bool true ∧ Fr m M [] := by
  obtain ⟨ta, tc, etv⟩ := hT.form
  subst etv
  refine law20_ExecSame_go (by simp [Try.f33]) ?_
  have H := Hq.refl m []
  simp (disch := omega) only [go_sem, undef]
  refine callN H (law_few_s hR hok hl 24 (by omega)) fun u M A e f H => ?_
  subst e
  have hlow := fewL_low (l := R) (n := 24)
  have hlen := fewL_len R 24
  generalize fewL R 24 = R at *
  have H := (H.nilRow 40 23).up 1 rfl
  simp (disch := omega) only [go_sem, undef]
  refine Own.formK (H.at 0 rfl) fun ua uc ea => ?_
  subst ea
  refine loopQ_intro (fun k E m' => ∃ j w, j ≤ R.length ∧ k = R.length - j ∧ E = [(0, .slice ua R.length uc), (1, .slice ta T.length tc), (5, w), (6, .int .i64 (j : Nat))] ∧
    Hq m m' [] [ownA 40 23 (.slice ua R.length uc) R.length ((comJ R j).flatMap knE), ownA 40 23 w (ownL (R.take j)).length ((ownL (R.take j)).flatMap knE)]) R.length rfl ⟨0, .slice none 0 0, by omega, by omega, rfl, by rw [comJ_0]; exact H⟩ ?_
  clear H f
  rintro k E m' ⟨j, w, hj, rfl, rfl, H⟩
  simp (disch := omega) only [go_sem, undef]
  refine condB_dec (fun hjl => ?_) (fun hjl => ?_)
  · have hjl : j < R.length := by omega
    have hpj : R[j]? = some R[j] := List.getElem?_eq_getElem hjl
    generalize R[j] = p at hpj
    refine Own.rowK (H.at 0 rfl) (by omega) fun ub ucap tail ea hub hul => ?_
    cases ea
    have H := H.toCell hub
    have hset := kn_set (comJ_at hpj) tail (.int .i64 3) (com p) 2 (by omega) rfl
    rw [comJ_set hpj] at hset
    have hfl : ((comJ R j).flatMap knE).length = R.length * 23 := by rw [fm_len knE_len, comJ_len]
    have hfl' : ((comJ R (j + 1)).flatMap knE).length = R.length * 23 := by rw [fm_len knE_len, comJ_len]
    simp (disch := omega) only [go_sem, undef, H.cs, hset, hfl]
    refine wrQ0 H fun M f H => ?_
    have H := H.ofCell (n := R.length) hfl' (cap := uc) (by rw [← hul]; simp only [List.length_append, hfl, hfl'])
    have hP : (comJ R (j + 1))[j]? = some (com p) := by rw [← comJ_set hpj, List.getElem?_set_self (by rw [comJ_len]; exact hjl)]
    have hO := ownL_succ hpj
    have hOl : (ownL (R.take j)).length ≤ 24 := Nat.le_trans (ownL_ok _).len (by simp; omega)
    have hR1 : ∀ {M : Mem} {v : Value}, Own M 40 23 v R.length ((comJ R (j + 1)).flatMap knE) → RdS 23 knE M v (comJ R (j + 1)) := fun h => Own.rdsN (by decide) knE_len (comJ_len _ _) h
    refine RdS.elN (hR1 (H.at 0 rfl)) (comJ_len _ _) hjl (by decide) fun bx o p' hp' hix hE => ?_
    have hpe : p' = com p := by rw [hP] at hp'; exact (Option.some.inj hp').symm
    subst hpe
    have hOl2 : (ownL (R.take j)).length ≤ 1000 := by omega
    simp (disch := omega) only [go_sem, undef, hix, hE.lda0]
    refine callN H (law_ids_s (Own.rds (by decide) knE_len (H.at 1 rfl)) hOl2) fun v M A e f H => ?_
    subst e
    have hE := hE.frame f
    simp (disch := omega) only [go_sem, undef, hix, hE.lda0]
    refine callQ H (law_place_s (Own.rds (by decide) pc_len (H.at 0 rfl)) (by rw [List.length_map]; omega) p.1) fun M f H => ?_
    have hE := hE.frame f
    have H := dropQ0 H
    by_cases hin : p.1 ∈ (ownL (R.take j)).map Prod.fst
    · have hno : ¬ placeL p.1 ((ownL (R.take j)).map Prod.fst) 0 < 0 := by rw [placeL_neg]; simpa using hin
      have hS : ownL (R.take (j + 1)) = ownL (R.take j) := by rw [hO]; unfold ownS; rw [if_pos hin]
      rw [← hS] at H
      simp (disch := omega) only [go_sem, undef, dec_f hno]
      exact handN_intro (R.length - (j + 1)) (by omega) ⟨j + 1, w, by omega, rfl, rfl, H⟩
    · have hno : placeL p.1 ((ownL (R.take j)).map Prod.fst) 0 < 0 := by rw [placeL_neg]; exact hin
      have hS : ownL (R.take (j + 1)) = ownL (R.take j) ++ [com p] := by rw [hO]; unfold ownS; rw [if_neg hin]
      simp (disch := omega) only [go_sem, undef, dec_t hno, hix, hE.lda0]
      refine newQ H fun b11 M f H => ?_
      simp (disch := omega) only [go_sem, undef]
      refine appQ2 H rfl (news := knE (com p)) (ldS_cell (n := 23) H.cs.1 (by rw [knE_len]; decide)) (knE_len _) (fun v hv => List.all_eq_true.1 (knE_oneP _) v hv) rfl (by omega) (by omega) fun w2 M f H => ?_
      have H := dropQ0 H
      have hL : (ownL (R.take j)).length + 1 = (ownL (R.take (j + 1))).length ∧ (ownL (R.take j)).flatMap knE ++ knE (com p) = (ownL (R.take (j + 1))).flatMap knE := by rw [hS]; simp
      rw [hL.1, hL.2] at H
      simp (disch := omega) only [go_sem, undef]
      exact handN_intro (R.length - (j + 1)) (by omega) ⟨j + 1, w2, by omega, rfl, rfl, H⟩
  · have e : j = R.length := by omega
    subst e
    rw [List.take_length] at H
    have H := H.drop 0
    have hOk := ownL_ok R
    have hOlow := ownL_low hlow
    have hOl := hOk.len
    generalize ownL R = O at *
    have hpc : plC O = O := plC_self hOk.nd fun p hp => (hOk.st p hp).1
    have hz : ∀ r, r < 7 → 0 ≤ Dp.zero.g r ∧ Dp.zero.g r ≤ 1000 := fun r _ => by rw [Dp.zero_g]; omega
    simp (disch := omega) only [go_sem, undef]
    refine callN H (exec_Plan_q (d0 := Dp.zero) (Own.rds (by decide) knE_len (H.at 0 rfl)) (by omega) hOlow hz) fun v M A ⟨a, b, e1, e2⟩ f H => ?_
    subst e1
    subst e2
    have H := (H.split).drop 1
    rw [hpc] at H
    have hON : (keysC O).Nodup := hOk.nd
    have hO3 : ∀ p ∈ O, p.2.st = 3 := fun p hp => (hOk.st p hp).1
    have hLO : LowC O := by have := plC_low hOlow; rw [hpc] at this; exact this
    obtain ⟨dA, FA, PA, _⟩ := phase hOlow hOk.nd hO3 (List.Sublist.refl O) (Ph.start O)
    rw [List.nil_append] at PA
    obtain ⟨P1, hP1⟩ : ∃ P1, P1 = (planL O Dp.zero).1 := ⟨_, rfl⟩
    rw [← hP1] at H PA FA
    have hKb : P1.length ≤ 24 := by have := PA.pi.len; omega
    have hK := kmap_get O P1
    have hKl := kmap_len O P1
    have hKm : (kmap O P1).map Prod.fst = P1 := by simp [kmap, Function.comp_def]
    generalize kmap O P1 = K at *
    refine Own.formK (H.at 0 rfl) fun aa ac ea => ?_
    subst ea
    refine Own.formK (H.at 1 rfl) fun wa wc ea => ?_
    subst ea
    have hT0 : ∀ {M : Mem}, Fr m M [] → RdS 1 ic M (.slice ta T.length tc) T := fun f => hT.frame f
    have hOR : ∀ {M : Mem}, Own M 40 23 (.slice wa O.length wc) O.length (O.flatMap knE) → RdS 23 knE M (.slice wa O.length wc) O := fun h => Own.rds (by decide) knE_len h
    have hKR : ∀ {M : Mem}, Own M 40 23 (.slice aa K.length ac) K.length (K.flatMap knE) → RdS 23 knE M (.slice aa K.length ac) K := fun h => Own.rds (by decide) knE_len h
    simp (disch := omega) only [go_sem, undef]
    refine newQ H fun b9 M f H => ?_
    have H := H.nilRow 23 2
    simp (disch := omega) only [go_sem, undef]
    refine loopQ_intro (fun k E m' => ∃ t done parts pv, t ≤ 4 ∧ k = 4 - t ∧ E = [(1, .slice ta T.length tc), (5, .slice wa O.length wc), (7, .slice aa K.length ac), (9, .pointer (some ⟨b9, 0, none⟩)), (10, pv), (11, .int .i64 (t : Nat))] ∧
      Ph O done parts ∧ (t = 4 → ∃ d0 o mm, Fin O d0 done o mm) ∧
      Hq m m' [] [ownA 23 2 pv parts.length (prs parts), cellA b9 (.cells (dv done).toArray 30 (0, 0)), ownA 40 23 (.slice aa K.length ac) K.length (K.flatMap knE), ownA 40 23 (.slice wa O.length wc) O.length (O.flatMap knE)]) 4 rfl
      ⟨0, Dp.zero, [], .slice none 0 0, by omega, by omega, rfl, Ph.start O, by omega, H⟩ ?_
    clear H f
    rintro k E m' ⟨t, done, parts, pv, ht, rfl, rfl, hPh, hFin, H⟩
    have hpl : parts.length ≤ 24 := by have := hPh.pi.len; omega
    simp (disch := omega) only [go_sem, undef]
    refine condB_dec (fun ht4 => ?_) (fun ht4 => ?_)
    · have ht4 : t < 4 := by omega
      have H := H.nilRow 40 23
      simp (disch := omega) only [go_sem, undef]
      refine loopQ_intro (fun k E m' => ∃ i nv, i ≤ O.length ∧ k = O.length - i ∧ E = [(1, .slice ta T.length tc), (5, .slice wa O.length wc), (7, .slice aa K.length ac), (9, .pointer (some ⟨b9, 0, none⟩)), (10, pv), (11, .int .i64 (t : Nat)), (12, nv), (13, .int .i64 (i : Nat))] ∧
        Hq m m' [] [ownA 40 23 nv (nowL O T t i).length ((nowL O T t i).flatMap knE), ownA 23 2 pv parts.length (prs parts), cellA b9 (.cells (dv done).toArray 30 (0, 0)), ownA 40 23 (.slice aa K.length ac) K.length (K.flatMap knE), ownA 40 23 (.slice wa O.length wc) O.length (O.flatMap knE)]) O.length rfl
        ⟨0, .slice none 0 0, by omega, by omega, rfl, H⟩ ?_
      clear H
      rintro k E m' ⟨i, nv, hi, rfl, rfl, H⟩
      simp (disch := omega) only [go_sem, undef]
      refine condB_dec (fun hio => ?_) (fun hio => ?_)
      · have hio : i < O.length := by omega
        have hpi : O[i]? = some O[i] := List.getElem?_eq_getElem hio
        generalize O[i] = p at hpi
        have hnl := nowL_len O T t i
        have key : ∀ {Q : Prop}, (condT T t i → Q) → (¬ condT T t i → Q) → Q := fun h1 h2 => by by_cases h : condT T t i; exact h1 h; exact h2 h
        have hgo : ∀ M, Hq m M [] [ownA 40 23 nv (nowL O T t i).length ((nowL O T t i).flatMap knE), ownA 23 2 pv parts.length (prs parts), cellA b9 (.cells (dv done).toArray 30 (0, 0)), ownA 40 23 (.slice aa K.length ac) K.length (K.flatMap knE), ownA 40 23 (.slice wa O.length wc) O.length (O.flatMap knE)] → ¬ condT T t i →
            Hq m M [] [ownA 40 23 nv (nowL O T t (i + 1)).length ((nowL O T t (i + 1)).flatMap knE), ownA 23 2 pv parts.length (prs parts), cellA b9 (.cells (dv done).toArray 30 (0, 0)), ownA 40 23 (.slice aa K.length ac) K.length (K.flatMap knE), ownA 40 23 (.slice wa O.length wc) O.length (O.flatMap knE)] := fun M H h => by
          have : nowL O T t (i + 1) = nowL O T t i := by rw [nowL, if_neg h, List.append_nil]
          rw [this]; exact H
        have hyes : condT T t i → (nowL O T t i).length + 1 = (nowL O T t (i + 1)).length ∧ (nowL O T t i).flatMap knE ++ knE p = (nowL O T t (i + 1)).flatMap knE := fun h => by
          have : nowL O T t (i + 1) = nowL O T t i ++ [p] := by rw [nowL, if_pos h, hpi]; rfl
          rw [this]; simp
        by_cases h3 : t = 3
        · have hc : condT T t i := .inl h3
          have h3' : (t : Int) = 3 := by omega
          refine RdS.elK (hOR (H.at 4 rfl)) hio (by decide) fun bx o p' hp' hix hE => ?_
          have hpe : p' = p := by rw [hpi] at hp'; exact (Option.some.inj hp').symm
          subst hpe
          simp (disch := omega) only [go_sem, undef, dec_t h3', hix, hE.lda0]
          refine newQ H fun b11 M f H => ?_
          simp (disch := omega) only [go_sem, undef]
          refine appQ1 H rfl (news := knE p') (ldS_cell (n := 23) H.cs.1 (by rw [knE_len]; decide)) (knE_len _) (fun v hv => List.all_eq_true.1 (knE_oneP _) v hv) rfl (by omega) (by omega) fun nv2 M f H => ?_
          have H := dropQ0 H
          rw [(hyes hc).1, (hyes hc).2] at H
          simp (disch := omega) only [go_sem, undef]
          exact handN_intro (O.length - (i + 1)) (by omega) ⟨i + 1, nv2, by omega, rfl, rfl, H⟩
        · have h3' : ¬ (t : Int) = 3 := by omega
          by_cases hit : i < T.length
          · have hit' : (i : Int) < (T.length : Nat) := by omega
            refine RdS.elK (hT0 H.fr) hit (by decide) fun bt ot x hx hixt hEt => ?_
            have hgd : T.getD i 0 = x := by rw [List.getD_eq_getElem?_getD, hx]; rfl
            have hxo := hTok x (List.mem_of_getElem? hx)
            simp (disch := omega) only [go_sem, undef, dec_f h3', dec_t hit', hixt, hEt.ld0]
            refine callQ H (book_Within_s x 0 3 hxo (by omega) (by omega) (by omega) _) fun M f H => ?_
            by_cases hle : wi x 0 3 ≤ (t : Nat)
            · have hc : condT T t i := .inr ⟨hit, by rw [hgd]; exact hle⟩
              refine RdS.elK (hOR (H.at 4 rfl)) hio (by decide) fun bx o p' hp' hix hE => ?_
              have hpe : p' = p := by rw [hpi] at hp'; exact (Option.some.inj hp').symm
              subst hpe
              simp (disch := omega) only [go_sem, undef, dec_t hle, hix, hE.lda0]
              refine newQ H fun b11 M f H => ?_
              simp (disch := omega) only [go_sem, undef]
              refine appQ1 H rfl (news := knE p') (ldS_cell (n := 23) H.cs.1 (by rw [knE_len]; decide)) (knE_len _) (fun v hv => List.all_eq_true.1 (knE_oneP _) v hv) rfl (by omega) (by omega) fun nv2 M f H => ?_
              have H := dropQ0 H
              rw [(hyes hc).1, (hyes hc).2] at H
              simp (disch := omega) only [go_sem, undef]
              exact handN_intro (O.length - (i + 1)) (by omega) ⟨i + 1, nv2, by omega, rfl, rfl, H⟩
            · have hc : ¬ condT T t i := by rintro (h | ⟨_, h⟩); exact h3 h; rw [hgd] at h; exact hle h
              simp (disch := omega) only [go_sem, undef, dec_f hle]
              exact handN_intro (O.length - (i + 1)) (by omega) ⟨i + 1, nv, by omega, rfl, rfl, hgo _ H hc⟩
          · have hit' : ¬ (i : Int) < (T.length : Nat) := by omega
            have hc : ¬ condT T t i := by rintro (h | ⟨h, _⟩); exact h3 h; exact hit h
            simp (disch := omega) only [go_sem, undef, dec_f h3', dec_f hit']
            exact handN_intro (O.length - (i + 1)) (by omega) ⟨i + 1, nv, by omega, rfl, rfl, hgo _ H hc⟩
      · have e : i = O.length := by omega
        subst e
        have hsub : (nowL O T t O.length).Sublist O := by have := nowL_sub O T t O.length; rwa [List.take_length] at this
        have hnl := nowL_len O T t O.length
        have h33 : t = 3 → nowL O T t O.length = O := fun h => by rw [h, nowL_3, List.take_length]
        generalize nowL O T t O.length = N at *
        have hNpc : plC N = N := plC_self (sub_keys hsub hOk.nd) fun p hp => hO3 p (hsub.subset hp)
        have hbd := fun r hr => hPh.bd hLO r hr
        obtain ⟨done', F, hPh', hup⟩ := phase hOlow hOk.nd hO3 hsub hPh
        simp (disch := omega) only [go_sem, undef, H.cs]
        refine callN H (exec_Plan_q (d0 := done) (Own.rds (by decide) knE_len (H.at 0 rfl)) (by omega) (fun p hp => hOlow p (hsub.subset hp)) hbd) fun v M A ⟨a2, b2, e1, e2⟩ f H => ?_
        subst e1
        subst e2
        have H := ((H.split).drop 1).drop 1
        rw [hNpc] at H
        obtain ⟨P2, hP2⟩ : ∃ P2, P2 = (planL N done).1 := ⟨_, rfl⟩
        rw [← hP2] at H F hPh' hup
        have hP2l : P2.length ≤ 24 := by have := F.pi.len; omega
        have hP2m : ∀ i ∈ P2, 0 ≤ i.1 ∧ i.1 < 7 := fun i hi => by have := (F.pi.mem i).1 hi; exact ⟨this.1, this.2.1⟩
        have hK2 := kmap_get N P2
        have hK2l := kmap_len N P2
        generalize kmap N P2 = K2 at *
        refine Own.formK (H.at 0 rfl) fun qa qc ea => ?_
        subst ea
        simp (disch := omega) only [go_sem, undef]
        refine loopQ_intro (fun k E m' => ∃ j pv2, j ≤ K2.length ∧ k = K2.length - j ∧ E = [(1, .slice ta T.length tc), (5, .slice wa O.length wc), (7, .slice aa K.length ac), (9, .pointer (some ⟨b9, 0, none⟩)), (10, pv2), (11, .int .i64 (t : Nat)), (14, .slice qa K2.length qc), (16, .int .i64 (j : Nat))] ∧
          Hq m m' [] [ownA 40 23 (.slice qa K2.length qc) K2.length (K2.flatMap knE), ownA 23 2 pv2 (parts ++ P2.take j).length (prs (parts ++ P2.take j)), cellA b9 (.cells (dv (upD done (P2.take j))).toArray 30 (0, 0)), ownA 40 23 (.slice aa K.length ac) K.length (K.flatMap knE), ownA 40 23 (.slice wa O.length wc) O.length (O.flatMap knE)]) K2.length rfl
          ⟨0, pv, by omega, by omega, rfl, by rw [List.take_zero, List.append_nil]; exact H⟩ ?_
        clear H f
        rintro k E m' ⟨j, pv2, hj, rfl, rfl, H⟩
        simp (disch := omega) only [go_sem, undef]
        refine condB_dec (fun hjl => ?_) (fun hjl => ?_)
        · have hjl : j < K2.length := by omega
          have hKR2 : RdS 23 knE m' (.slice qa K2.length qc) K2 := Own.rds (by decide) knE_len (H.at 0 rfl)
          refine RdS.elK hKR2 hjl (by decide) fun bx o p hp hix hE => ?_
          have hPj : P2[j]? = some P2[j] := List.getElem?_eq_getElem (by omega)
          rw [hK2 j, hPj] at hp
          generalize P2[j] = i at hPj hp
          have hi := hP2m i (List.mem_of_getElem? hPj)
          have hpe : p = (i, (lkC i N).getD Cel.zero) := (Option.some.inj hp).symm
          subst hpe
          generalize (lkC i N).getD Cel.zero = c at *
          obtain ⟨i1, i2⟩ := i
          obtain ⟨r, rfl⟩ := Int.eq_ofNat_of_zero_le hi.1
          have hr7 : r < 7 := by have := hi.2; simp only at this; omega
          have hql : (parts ++ P2.take j).length ≤ 48 := by simp; omega
          have hsn : P2.take (j + 1) = P2.take j ++ [((r : Int), i2)] := by rw [List.take_add_one, hPj]; rfl
          obtain ⟨Q, hQ⟩ : ∃ Q, Q = parts ++ P2.take j := ⟨_, rfl⟩
          have hQ1 : parts ++ P2.take (j + 1) = Q ++ [((r : Int), i2)] := by rw [hsn, hQ, List.append_assoc]
          rw [← hQ] at H hql
          simp (disch := omega) only [go_sem, undef, hix, hE.ld, hE.ld0, H.cs]
          refine wrQ2 H fun M f H => ?_
          have hKR2 : RdS 23 knE M (.slice qa K2.length qc) K2 := Own.rds (by decide) knE_len (H.at 0 rfl)
          refine RdS.elK hKR2 hjl (by decide) fun bx' o' p' hp' hix' hE' => ?_
          rw [hK2 j, hPj] at hp'
          have hpe : p' = (((r : Int), i2), (lkC ((r : Int), i2) N).getD Cel.zero) := (Option.some.inj hp').symm
          subst hpe
          simp (disch := omega) only [go_sem, undef, hix', hE'.lda0]
          refine newQ H fun b11 M f H => ?_
          simp (disch := omega) only [go_sem, undef]
          refine appQ2 H rfl (news := pc ((r : Int), i2)) (ldS_cell (n := 2) H.cs.1 (by rw [pc_len]; decide)) (pc_len _) (fun v hv => List.all_eq_true.1 (pc_one _) v hv) rfl (by omega) (by omega) fun pv3 M f H => ?_
          have H := dropQ0 H
          have hL : Q.length + 1 = (parts ++ P2.take (j + 1)).length ∧ prs Q ++ pc ((r : Int), i2) = prs (parts ++ P2.take (j + 1)) := by rw [hQ1]; simp [prs]
          rw [hL.1, hL.2] at H
          simp (disch := omega) only [go_sem, undef]
          exact handN_intro (K2.length - (j + 1)) (by omega) ⟨j + 1, pv3, by omega, rfl, rfl, by
            rw [hsn, upD_snoc, ← hsn]; exact H⟩
        · have e : j = K2.length := by omega
          subst e
          rw [hK2l, List.take_length, ← hK2l, hup] at H
          simp (disch := omega) only [go_sem, undef]
          exact handN_intro (4 - (t + 1)) (by omega) ⟨t + 1, done', _, pv2, by omega, rfl, rfl, hPh', fun h => by
            have := h33 (by omega); subst this; exact ⟨_, _, _, F⟩, H.drop 0⟩
    · have e : t = 4 := by omega
      subst e
      obtain ⟨d0, o, mm, FZ⟩ := hFin rfl
      have hd : done = dA := Dp.ext_g fun r hr => Int.le_antisymm (hPh.le PA FA hLO r hr) (PA.le hPh FZ hLO r hr)
      subst hd
      have hsm := hPh.same PA
      simp (disch := omega) only [go_sem, undef]
      refine callN H (law_ids_s (hKR (H.at 2 rfl)) (by omega)) fun v M A e f H => ?_
      rw [hKm] at e
      subst e
      refine Own.formK (H.at 0 rfl) fun va vc ea => ?_
      subst ea
      refine Own.formK (H.at 1 rfl) fun pa pc' ea => ?_
      subst ea
      have hPR : ∀ {M : Mem}, Own M 23 2 (.slice pa parts.length pc') parts.length (prs parts) → RdS 2 pc M (.slice pa parts.length pc') parts := fun h => Own.rds (by decide) pc_len h
      simp (disch := omega) only [go_sem, undef, dec_t (show (parts.length : Int) = (P1.length : Nat) by have := hsm.1; omega)]
      refine loopQ_intro (fun k E m' => ∃ i, i ≤ K.length ∧ k = K.length - i ∧ E = [(7, .slice aa K.length ac), (10, .slice pa parts.length pc'), (18, .int .i64 (i : Nat))] ∧
        Hq m m' [] [ownA 23 2 (.slice pa parts.length pc') parts.length (prs parts), ownA 40 23 (.slice aa K.length ac) K.length (K.flatMap knE)]) K.length rfl ⟨0, by omega, by omega, rfl, ((H.drop 4).drop 2).drop 0⟩ ?_
      clear H f
      rintro k E m' ⟨i, hi, rfl, rfl, H⟩
      simp (disch := omega) only [go_sem, undef]
      refine condB_dec (fun hil => ?_) (fun hil => ?_)
      · have hil : i < K.length := by omega
        simp (disch := omega) only [go_sem, undef]
        refine loopQ_intro (fun z E m' => ∃ k, k ≤ i ∧ z = i - k ∧ E = [(7, .slice aa K.length ac), (10, .slice pa parts.length pc'), (18, .int .i64 (i : Nat)), (19, .int .i64 (k : Nat))] ∧
          Hq m m' [] [ownA 23 2 (.slice pa parts.length pc') parts.length (prs parts), ownA 40 23 (.slice aa K.length ac) K.length (K.flatMap knE)]) i rfl ⟨0, by omega, by omega, rfl, H⟩ ?_
        clear H
        rintro z E m' ⟨k, hk, rfl, rfl, H⟩
        simp (disch := omega) only [go_sem, undef]
        refine condB_dec (fun hki => ?_) (fun hki => ?_)
        · have hki : k < i := by omega
          have hiP : i < P1.length := by omega
          have hkP : k < P1.length := by omega
          have hPk : P1[k]? = some (P1[k]) := List.getElem?_eq_getElem (by omega)
          have hPi : P1[i]? = some (P1[i]) := List.getElem?_eq_getElem (by omega)
          have hord : tied O P1[k] P1[i] → ∀ p q (hp : p < parts.length) (hq : q < parts.length), parts[p] = P1[k] → parts[q] = P1[i] → p ≤ q := fun ht p q hp hq ep eq => PA.order hPh hki hiP ht hp hq ep eq
          have hkm : P1[k] ∈ parts := (hsm.2 _).2 (List.getElem_mem _)
          have him : P1[i] ∈ parts := (hsm.2 _).2 (List.getElem_mem _)
          generalize P1[k] = ik at *
          generalize P1[i] = ii at *
          refine RdS.elK (hKR (H.at 1 rfl)) (i := k) (by omega) (by decide) fun bx o p hp hix hE => ?_
          refine RdS.elK (hKR (H.at 1 rfl)) hil (by decide) fun bx' o' p' hp' hix' hE' => ?_
          rw [hK k, hPk] at hp
          rw [hK i, hPi] at hp'
          have hpe : p = (ik, (lkC ik O).getD Cel.zero) := (Option.some.inj hp).symm
          have hpe' : p' = (ii, (lkC ii O).getD Cel.zero) := (Option.some.inj hp').symm
          subst hpe
          subst hpe'
          obtain ⟨ck, hck⟩ : ∃ ck, ck = (lkC ik O).getD Cel.zero := ⟨_, rfl⟩
          obtain ⟨ci, hci⟩ : ∃ ci, ci = (lkC ii O).getD Cel.zero := ⟨_, rfl⟩
          rw [← hck] at hE
          rw [← hci] at hE'
          have hak : attC O ik = ck.att := by rw [hck]
          have hai : attC O ii = ci.att := by rw [hci]
          clear hp hp'
          simp (disch := omega) only [go_sem, undef, hix, hE.lda0, hix', hE'.lda0]
          refine both_cut (J := fun E M => ∃ x y, E = [(7, .slice aa K.length ac), (10, .slice pa parts.length pc'), (18, .int .i64 (i : Nat)), (19, .int .i64 (k : Nat)), (20, .pointer (some ⟨x, 0, none⟩)), (21, .pointer (some ⟨y, 0, none⟩))] ∧
            Hq m M [] [cellA x (.cells (knE (ik, ck)).toArray 40 (0, 0)), cellA y (.cells (knE (ii, ci)).toArray 40 (0, 0)), ownA 23 2 (.slice pa parts.length pc') parts.length (prs parts), ownA 40 23 (.slice aa K.length ac) K.length (K.flatMap knE)]) ?_ ?_
          · rintro E M ⟨x, y, rfl, H⟩
            obtain ⟨jp, hjp, hjpv, hjpe⟩ := (placeL_ok ik parts 0).resolve_left (fun h => h.1 hkm)
            obtain ⟨jq, hjq, hjqv, hjqe⟩ := (placeL_ok ii parts 0).resolve_left (fun h => h.1 him)
            rw [Int.zero_add] at hjpe hjqe
            have hto : tied O ik ii → ¬ (jq : Int) < (jp : Nat) := fun h => by
              have := hord h jp jq hjp hjq hjpv hjqv
              omega
            simp (disch := omega) only [go_sem, undef, H.cs, Nat.add_assoc]
            refine callQ H (deps_Reach_s ck.att.deps ii _) fun M f H => ?_
            by_cases h1 : rightI ii ∧ ii.2 ≤ ck.att.deps.g ii.1.toNat
            · have ht : tied O ik ii := .inl (by rw [hak]; exact h1)
              simp (disch := omega) only [go_sem, undef, dec_t h1, H.cs]
              refine callQ H (law_place_s (hPR (H.at 2 rfl)) (by omega) ik) fun M f H => ?_
              simp (disch := omega) only [go_sem, undef, H.cs]
              refine callQ H (law_place_s (hPR (H.at 2 rfl)) (by omega) ii) fun M f H => ?_
              rw [hjpe, hjqe]
              simp (disch := omega) only [go_sem, undef, dec_f (show ¬ (jp : Int) < 0 by omega), dec_f (show ¬ (jq : Int) < 0 by omega), dec_f (hto ht)]
              exact handN_intro (i - (k + 1)) (by omega) ⟨k + 1, by omega, rfl, rfl, (H.drop 0).drop 0⟩
            · simp (disch := omega) only [go_sem, undef, dec_f h1, H.cs, Nat.add_assoc]
              refine callQ H (deps_Reach_s ci.att.deps ik _) fun M f H => ?_
              by_cases h2 : rightI ik ∧ ik.2 ≤ ci.att.deps.g ik.1.toNat
              · have ht : tied O ik ii := .inr (.inl (by rw [hai]; exact h2))
                simp (disch := omega) only [go_sem, undef, dec_f h1, dec_t h2, H.cs]
                refine callQ H (law_place_s (hPR (H.at 2 rfl)) (by omega) ik) fun M f H => ?_
                simp (disch := omega) only [go_sem, undef, H.cs]
                refine callQ H (law_place_s (hPR (H.at 2 rfl)) (by omega) ii) fun M f H => ?_
                rw [hjpe, hjqe]
                simp (disch := omega) only [go_sem, undef, dec_f (show ¬ (jp : Int) < 0 by omega), dec_f (show ¬ (jq : Int) < 0 by omega), dec_f (hto ht)]
                exact handN_intro (i - (k + 1)) (by omega) ⟨k + 1, by omega, rfl, rfl, (H.drop 0).drop 0⟩
              · by_cases h3 : ik.1 = ii.1
                · have ht : tied O ik ii := .inr (.inr h3)
                  simp (disch := omega) only [go_sem, undef, dec_f h1, dec_f h2, H.cs, dec_t h3]
                  refine callQ H (law_place_s (hPR (H.at 2 rfl)) (by omega) ik) fun M f H => ?_
                  simp (disch := omega) only [go_sem, undef, H.cs]
                  refine callQ H (law_place_s (hPR (H.at 2 rfl)) (by omega) ii) fun M f H => ?_
                  rw [hjpe, hjqe]
                  simp (disch := omega) only [go_sem, undef, dec_f (show ¬ (jp : Int) < 0 by omega), dec_f (show ¬ (jq : Int) < 0 by omega), dec_f (hto ht)]
                  exact handN_intro (i - (k + 1)) (by omega) ⟨k + 1, by omega, rfl, rfl, (H.drop 0).drop 0⟩
                · simp (disch := omega) only [go_sem, undef, dec_f h1, dec_f h2, H.cs, dec_f h3]
                  refine callQ H (law_place_s (hPR (H.at 2 rfl)) (by omega) ik) fun M f H => ?_
                  simp (disch := omega) only [go_sem, undef, H.cs]
                  refine callQ H (law_place_s (hPR (H.at 2 rfl)) (by omega) ii) fun M f H => ?_
                  rw [hjpe, hjqe]
                  simp (disch := omega) only [go_sem, undef, dec_f (show ¬ (jp : Int) < 0 by omega), dec_f (show ¬ (jq : Int) < 0 by omega)]
                  exact handN_intro (i - (k + 1)) (by omega) ⟨k + 1, by omega, rfl, rfl, (H.drop 0).drop 0⟩
          · simp (disch := omega) only [go_sem, undef]
            refine both_intro ?_ ?_
            · simp (disch := omega) only [go_sem, undef]
              refine newQ H fun b8 M f H => ?_
              have hE := hE.frame f
              have hE' := hE'.frame f
              simp (disch := omega) only [go_sem, undef, hE.lda0, hE'.lda0]
              refine newQ H fun b9' M f H => ?_
              have hE := hE.frame f
              have hE' := hE'.frame f
              simp (disch := omega) only [go_sem, undef, hE.lda0, hE'.lda0]
              refine stwQ1 H rfl rfl fun M f H => ?_
              refine RdS.elK (hKR (H.at 3 rfl)) hil (by decide) fun bx2 o2 p2 hp2 hix2 hE2 => ?_
              obtain ⟨rfl, rfl⟩ := hix'.inj hix2
              rw [hK i, hPi] at hp2
              have hpe : p2 = (ii, (lkC ii O).getD Cel.zero) := (Option.some.inj hp2).symm
              subst hpe
              rw [← hci] at hE2
              simp (disch := omega) only [go_sem, undef, hE2.lda0]
              refine stwQ0 H rfl rfl fun M f H => ?_
              simp (disch := omega) only [go_sem, undef]
              exact ⟨_, _, rfl, H.up 1 rfl⟩
            · simp (disch := omega) only [go_sem, undef]
              refine newQ H fun b9' M f H => ?_
              have hE := hE.frame f
              have hE' := hE'.frame f
              simp (disch := omega) only [go_sem, undef, hE.lda0, hE'.lda0]
              refine newQ H fun b8 M f H => ?_
              have hE := hE.frame f
              have hE' := hE'.frame f
              simp (disch := omega) only [go_sem, undef, hE.lda0, hE'.lda0]
              refine stwQ0 H rfl rfl fun M f H => ?_
              refine RdS.elK (hKR (H.at 3 rfl)) hil (by decide) fun bx2 o2 p2 hp2 hix2 hE2 => ?_
              obtain ⟨rfl, rfl⟩ := hix'.inj hix2
              rw [hK i, hPi] at hp2
              have hpe : p2 = (ii, (lkC ii O).getD Cel.zero) := (Option.some.inj hp2).symm
              subst hpe
              rw [← hci] at hE2
              simp (disch := omega) only [go_sem, undef, hE2.lda0]
              refine stwQ1 H rfl rfl fun M f H => ?_
              simp (disch := omega) only [go_sem, undef]
              exact ⟨_, _, rfl, H⟩
        · simp (disch := omega) only [go_sem, undef]
          exact handN_intro (K.length - (i + 1)) (by omega) ⟨i + 1, by omega, rfl, rfl, H⟩
      · simp (disch := omega) only [go_sem, undef]
        refine callQ H (hRuns _) fun M f H => ?_
        simp (disch := omega) only [go_sem, undef]
        exact ⟨rfl, H.fr⟩
end Go.Fw
