import Derived.Test.YthmfahaebogibaaEw3
import Derived.Test.YthmfahaebogibaaPl
import Derived.Test.YthmfahaebogibaaRf
set_option linter.unusedVariables false
set_option linter.unusedSimpArgs false
set_option linter.unusedSimpArgs false
set_option linter.unusedVariables false
namespace Go.Fw
open Go.Proofs
abbrev RunsOk : Prop := ∀ m : Mem, MC Try.prog n_law20_ExecRuns [] m fun v M => v = .bool true ∧ Fr m M []
/-- the deps so far -/
def dwJ (d : Dp) (j : Nat) : Dp := fun r => if r.val < j then wi (d r) 0 5 else d r
def dw5 (d : Dp) : Dp := fun r => wi (d r) 0 5
theorem dwJ_7 (d : Dp) : dwJ d 7 = dw5 d := funext fun r => by simp only [dwJ, dw5, r.isLt, if_true]
theorem dwJ_0 (d : Dp) : dwJ d 0 = d := funext fun r => by simp [dwJ]
theorem dwJ_g (d : Dp) {j : Nat} (h : j < 7) : (dwJ d j).g j = d.g j := by simp [Dp.g_lt _ h, dwJ]
theorem dwJ_up (d : Dp) {j : Nat} (h : j < 7) : (dwJ d j).up j (wi (d.g j) 0 5) = dwJ d (j + 1) := funext fun r => by
  by_cases e : r.val = j
  · subst e; simp [Dp.up, dwJ, d.g_fin r]
  · simp only [Dp.up, dwJ, e, if_false]
    by_cases h2 : r.val < j
    · rw [if_pos h2]; rw [if_pos (show r.val < j + 1 by omega)]
    · rw [if_neg h2]; rw [if_neg (show ¬ r.val < j + 1 by omega)]
theorem dw5_in (d : Dp) : ∀ r, r < 7 → 0 ≤ (dw5 d).g r ∧ (dw5 d).g r ≤ 1000 := fun r hr => by
  have := wi_in (n := d ⟨r, hr⟩) (lo := 0) (hi := 5) (by omega)
  rw [Dp.g_lt _ hr]; simp only [dw5]; omega
set_option maxHeartbeats 8000000 in
theorem law_Twice_s (hRuns : RunsOk) {m : Mem} {d : Dp} {R : List Kn} {sv : Value} (hd : okD d) (hR : RdS 23 knE m sv R) (hok : ∀ p ∈ R, okK p) (hl : R.length ≤ 9223372036854775807) :
    MC Try.prog n_law20_ExecTwice [d.v, sv] m fun v M => v = .bool true ∧ Fr m M [] := by
  refine law20_ExecTwice_go (by simp [Try.f33]) ?_
  have H := Hq.refl m []
  simp (disch := omega) only [go_sem, undef]
  refine newQ H fun b2 M f H => ?_
  simp (disch := omega) only [go_sem, undef]
  refine callN H (law_few_s (hR.frame f) hok hl 30 (by omega)) fun u M A e f H => ?_
  subst e
  simp (disch := omega) only [go_sem, undef]
  have hq : dwJ d 0 = d := dwJ_0 d
  refine loopQ_intro (fun k E m' => ∃ r, r ≤ 7 ∧ k = 7 - r ∧ E = [(1, u), (2, .pointer (some ⟨b2, 0, none⟩)), (5, .int .i64 (r : Nat))] ∧
    Hq m m' [] [ownA 40 23 u (fewL R 30).length ((fewL R 30).flatMap knE), cellA b2 (.cells (dv (dwJ d r)).toArray 30 (0, 0))]) 7 rfl ⟨0, by omega, rfl, rfl, by rw [hq]; exact H⟩ ?_
  clear H f
  rintro k E m' ⟨r, hr, rfl, rfl, H⟩
  simp (disch := omega) only [go_sem, undef]
  refine condB_dec (fun hr7 => ?_) (fun hr7 => ?_)
  · have hr7 : r < 7 := by omega
    have hdr : R64 (d.g r) := by rw [Dp.g_lt _ hr7]; exact hd _
    simp (disch := omega) only [go_sem, undef, H.cs, dwJ_g _ hr7]
    refine callQ H (book_Within_s (d.g r) 0 5 hdr (by omega) (by omega) (by omega) _) fun M f H => ?_
    simp (disch := omega) only [go_sem, undef, H.cs]
    refine wrQ1 H fun M f H => ?_
    simp (disch := omega) only [go_sem, undef]
    exact handN_intro (7 - (r + 1)) (by omega) ⟨r + 1, by omega, rfl, rfl, by rw [← dwJ_up _ hr7]; exact H⟩
  · have e : r = 7 := by omega
    subst e
    rw [dwJ_7] at H
    have hd0 := dw5_in d
    generalize dw5 d = d0 at *
    have hlow := fewL_low (l := R) (n := 30)
    have hlen := fewL_len R 30
    generalize fewL R 30 = R at *
    simp (disch := omega) only [go_sem, undef, H.cs]
    have hRS : ∀ {M : Mem}, Own M 40 23 u R.length (R.flatMap knE) → RdS 23 knE M u R := fun h => Own.rds (by decide) knE_len h
    refine callN H (exec_Plan_q (hRS (H.at 0 rfl)) (by omega) hlow hd0) fun v M A ⟨a, b, e1, e2⟩ f H => ?_
    subst e1
    subst e2
    have H := H.split
    simp (disch := omega) only [go_sem, undef, H.cs]
    refine newQ H fun b8 M f H => ?_
    simp (disch := omega) only [go_sem, undef]
    refine stwQ0 H rfl rfl fun M f H => ?_
    have T := twice_plain (plC_low hlow) d0
    have hlenC : (plC R).length ≤ 30 := Nat.le_trans (plC_PC R).len hlen
    have hLC := plC_low hlow
    have hKb : ((planL (plC R) d0).1).length ≤ 30 := Nat.le_trans (plan_len _ _) hlenC
    have hXb := plan_mis (plC R) d0
    have hd1 := plan_bd hLC hd0
    have hPq : ∀ {M : Mem}, Own M 40 23 u R.length (R.flatMap knE) → ∀ d0, (∀ r, r < 7 → 0 ≤ Dp.g d0 r ∧ Dp.g d0 r ≤ 1000) → CN Try.prog n_exec_Plan [d0.v, u] M fun v A => ∃ a b, v = .tuple #[a, b] ∧ A = planR a b (plC R) d0 := fun h d0 hd => exec_Plan_q (hRS h) (by omega) hlow hd
    generalize plC R = C at *
    obtain ⟨P1, hP1⟩ : ∃ P1, P1 = (planL C d0).1 := ⟨_, rfl⟩
    obtain ⟨X1, hX1⟩ : ∃ X1, X1 = (planL C d0).2 := ⟨_, rfl⟩
    rw [← hP1, ← hX1] at T H
    rw [← hP1] at hd1 hKb
    rw [← hX1] at hXb
    have hX1l : X1.length ≤ 1000 := by omega
    have hK := kmap_get C P1
    have hKl := kmap_len C P1
    generalize kmap C P1 = K at *
    refine Own.formK (H.at 1 rfl) fun aa ac ea => ?_
    subst ea
    simp (disch := omega) only [go_sem, undef]
    refine loopQ_intro (fun k E m' => ∃ j, j ≤ K.length ∧ k = K.length - j ∧ E = [(1, u), (2, .pointer (some ⟨b2, 0, none⟩)), (6, .slice aa K.length ac), (7, b), (8, .pointer (some ⟨b8, 0, none⟩)), (9, .int .i64 (j : Nat))] ∧
      Hq m m' [] [cellA b8 (.cells (dv (upD d0 (P1.take j))).toArray 30 (0, 0)), ownA 40 23 (.slice aa K.length ac) K.length (K.flatMap knE), ownA T_api_Inst 2 b X1.length (prs X1), ownA 40 23 u R.length (R.flatMap knE), cellA b2 (.cells (dv d0).toArray 30 (0, 0))]) K.length rfl ⟨0, by omega, rfl, rfl, H⟩ ?_
    clear H f
    rintro k E m' ⟨j, hj, rfl, rfl, H⟩
    simp (disch := omega) only [go_sem, undef]
    refine condB_dec (fun hjl => ?_) (fun hjl => ?_)
    · have hjl : j < K.length := by omega
      have hKR : RdS 23 knE m' (.slice aa K.length ac) K := Own.rds (by decide) knE_len (H.at 1 rfl)
      refine RdS.elK hKR hjl (by decide) fun bx o p hp hix hE => ?_
      have hjP : j < P1.length := by omega
      have hPj : P1[j]? = some P1[j] := List.getElem?_eq_getElem hjP
      rw [hK j, hPj] at hp
      generalize P1[j] = i at hPj hp
      have hi := T.1 i (List.mem_of_getElem? hPj)
      have hpe : p = (i, (lkC i C).getD Cel.zero) := (Option.some.inj hp).symm
      subst hpe
      generalize (lkC i C).getD Cel.zero = c at *
      obtain ⟨i1, i2⟩ := i
      obtain ⟨r, rfl⟩ := Int.eq_ofNat_of_zero_le hi.1.1
      have hr7 : r < 7 := by have := hi.1.2; simp only at this; omega
      have hlt : ¬ i2 ≤ d0.g r := by have := hi.2; simp only [Int.toNat_natCast] at this; omega
      simp (disch := omega) only [go_sem, undef, hix, hE.ld, hE.ld0, H.cs, dec_f hlt]
      refine wrQ0 H fun M f H => ?_
      simp (disch := omega) only [go_sem, undef]
      exact handN_intro (K.length - (j + 1)) (by omega) ⟨j + 1, by omega, rfl, rfl, by
        rw [List.take_add_one, hPj, Option.toList_some, upD_snoc]; exact H⟩
    · have e : j = K.length := by omega
      subst e
      rw [hKl, List.take_length, ← hKl] at H
      simp (disch := omega) only [go_sem, undef, H.cs]
      refine callN H (hPq (H.at 3 rfl) (upD d0 P1) hd1) fun v M A ⟨a', b', e1, e2⟩ f H => ?_
      subst e1
      subst e2
      have H := H.split
      rw [T.2] at H
      refine Own.formK (H.at 0 rfl) fun aa' ac' ea => ?_
      subst ea
      have hXR : ∀ {M : Mem} {v : Value}, Own M T_api_Inst 2 v X1.length (prs X1) → RdS 2 pc M v X1 := fun h => Own.rds (by decide) pc_len h
      simp (disch := omega) only [go_sem, undef, dec_t (show ((kmap C ([] : List I2)).length : Int) = 0 from rfl)]
      refine callQ H (same_Inst_s (hXR (H.at 4 rfl)) (hXR (H.at 1 rfl)) hX1l) fun M f H => ?_
      simp (disch := omega) only [go_sem, undef, dec_t (show X1 = X1 from rfl)]
      refine callQ H (hRuns _) fun M f H => ?_
      simp (disch := omega) only [go_sem, undef]
      exact ⟨rfl, H.fr⟩
end Go.Fw

set_option linter.unusedSimpArgs false
set_option linter.unusedVariables false
namespace Go.Fw
open Go.Proofs
abbrev ic (n : Int) : List Value := [.int .i64 n]
def dpL (l : List Int) (j : Nat) : Dp := fun i => if i.val < j then l.getD i.val 0 else 0
theorem dpL_0 (l : List Int) : dpL l 0 = Dp.zero := funext fun i => by simp [dpL]
theorem dpL_up (l : List Int) {j : Nat} {x : Int} (h : l[j]? = some x) : (dpL l j).up j x = dpL l (j + 1) := funext fun q => by
  by_cases e : q.val = j
  · subst e; simp [Dp.up, dpL, List.getD_eq_getElem?_getD, h]
  · simp only [Dp.up, dpL, e, if_false]
    by_cases h2 : q.val < j
    · rw [if_pos h2, if_pos (show q.val < j + 1 by omega)]
    · rw [if_neg h2, if_neg (show ¬ q.val < j + 1 by omega)]
def knC (q : Int) (d : Dp) : Cel := { Cel.zero with st := 3, att := ⟨q, d⟩ }
theorem knC_lay (q : Int) (d : Dp) : lay Cel.zero.cs [(0, 1), (12, 8)] [Value.int IntKind.i64 3, Value.agg (Att.mk q d).cs.toArray] = some (knC q d).cs := rfl
set_option maxHeartbeats 8000000 in
theorem law_known_s {m : Mem} {sv : Value} {l : List Int} (hd : RdS 1 ic m sv l) (hl : l.length ≤ 7) (r s q : Int) :
    MC Try.prog n_law20_known [.int .i64 r, .int .i64 s, .int .i64 q, sv] m fun v M => v = .agg (knE ((r, s), knC q (dpL l l.length))).toArray ∧ Fr m M [] := by
  obtain ⟨sa, sc, esv⟩ := hd.form
  subst esv
  refine law20_known_go (by simp [Try.f33]) ?_
  have H := Hq.refl m []
  simp (disch := omega) only [go_sem, undef]
  refine newQ H fun b8 M f H => ?_
  simp (disch := omega) only [go_sem, undef]
  refine newQ H fun b9 M f H => ?_
  simp (disch := omega) only [go_sem, undef]
  refine stwQ0 H rfl rfl fun M f H => ?_
  simp (disch := omega) only [go_sem, undef]
  have hq : (Att.mk q Dp.zero).cs = (Att.mk q (dpL l 0)).cs := by rw [dpL_0]
  refine loopQ_intro (fun z E m' => ∃ j, j ≤ l.length ∧ z = l.length - j ∧ E = [(0, .int .i64 r), (1, .int .i64 s), (3, .slice sa l.length sc), (8, .pointer (some ⟨b8, 0, none⟩)), (9, .pointer (some ⟨b9, 0, none⟩)), (10, .int .i64 (j : Nat))] ∧
    Hq m m' [] [cellA b9 (.cells (Att.mk q (dpL l j)).cs.toArray 36 (0, 0)), cellA b8 (.cells (knE ((0, 0), Cel.zero)).toArray 40 (0, 0))]) l.length rfl ⟨0, by omega, rfl, rfl, by rw [← hq]; exact H⟩ ?_
  clear H f
  rintro z E m' ⟨j, hj, rfl, rfl, H⟩
  by_cases hjl : j < l.length
  · refine RdS.elK (hd.frame H.fr) hjl (by decide) fun bx o x hx hix hE => ?_
    simp (disch := omega) only [go_sem, undef, dec_t (show (j : Int) < (l.length : Nat) by omega), dec_t (show (j : Int) < 7 by omega), hix, hE.ld0, H.cs]
    refine wrQ0 H fun M f H => ?_
    simp (disch := omega) only [go_sem, undef]
    exact handN_intro (l.length - (j + 1)) (by omega) ⟨j + 1, by omega, rfl, rfl, by rw [← dpL_up l hx]; exact H⟩
  · have e : j = l.length := by omega
    subst e
    simp (disch := omega) only [go_sem, undef, dec_f (show ¬ (l.length : Int) < (l.length : Nat) by omega), H.cs, knC_lay, knc_bld]
    refine stwQ1 H rfl rfl fun M f H => ?_
    have hx : ∀ c, pc (r, s) ++ c.cs = knE ((r, s), c) := fun _ => rfl
    rw [hx] at H
    simp (disch := omega) only [go_sem, undef, H.cs]
    exact ⟨rfl, H.fr⟩
theorem law_at_s (r s : Int) (m : Mem) : MC Try.prog n_law20_ExecRuns_c1 [.int .i64 r, .int .i64 s] m fun v M => v = pv (r, s) ∧ Fr m M [] := by
  refine law20_ExecRuns_c1_go (by simp [Try.f33]) ?_
  have H := Hq.refl m []
  simp (disch := omega) only [go_sem, undef]
  refine newQ H fun b4 M f H => ?_
  simp (disch := omega) only [go_sem, undef]
  refine stwQ0 H rfl rfl fun M f H => ?_
  simp (disch := omega) only [go_sem, undef, H.cs]
  exact ⟨rfl, H.fr⟩
theorem two_lay (x y : Kn) : ((spl 0 (knE x) [Value.int .i64 0, Value.int .i64 0, Value.int .i64 0, Value.int .i64 0, Value.int .i64 0, Value.int .i64 0, Value.int .i64 0, Value.int .i64 0, Value.int .i64 0, Value.int .i64 0, Value.string { data := #[] }, Value.string { data := #[] }, Value.string { data := #[] }, Value.string { data := #[] }, Value.int .i64 0, Value.int .i64 0, Value.int .i64 0, Value.int .i64 0, Value.int .i64 0, Value.int .i64 0, Value.int .i64 0, Value.int .i64 0, Value.bool false, Value.int .i64 0, Value.int .i64 0, Value.int .i64 0, Value.int .i64 0, Value.int .i64 0, Value.int .i64 0, Value.int .i64 0, Value.int .i64 0, Value.int .i64 0, Value.int .i64 0, Value.string { data := #[] }, Value.string { data := #[] }, Value.string { data := #[] }, Value.string { data := #[] }, Value.int .i64 0, Value.int .i64 0, Value.int .i64 0, Value.int .i64 0, Value.int .i64 0, Value.int .i64 0, Value.int .i64 0, Value.int .i64 0, Value.bool false]).bind fun cs => lay cs [(23, 23)] [.agg (knE y).toArray]) = some (knE x ++ knE y) := by kernel_rfl
theorem three_lay (x y z : Kn) : ((spl 0 (knE x) [Value.int .i64 0, Value.int .i64 0, Value.int .i64 0, Value.int .i64 0, Value.int .i64 0, Value.int .i64 0, Value.int .i64 0, Value.int .i64 0, Value.int .i64 0, Value.int .i64 0, Value.string { data := #[] }, Value.string { data := #[] }, Value.string { data := #[] }, Value.string { data := #[] }, Value.int .i64 0, Value.int .i64 0, Value.int .i64 0, Value.int .i64 0, Value.int .i64 0, Value.int .i64 0, Value.int .i64 0, Value.int .i64 0, Value.bool false, Value.int .i64 0, Value.int .i64 0, Value.int .i64 0, Value.int .i64 0, Value.int .i64 0, Value.int .i64 0, Value.int .i64 0, Value.int .i64 0, Value.int .i64 0, Value.int .i64 0, Value.string { data := #[] }, Value.string { data := #[] }, Value.string { data := #[] }, Value.string { data := #[] }, Value.int .i64 0, Value.int .i64 0, Value.int .i64 0, Value.int .i64 0, Value.int .i64 0, Value.int .i64 0, Value.int .i64 0, Value.int .i64 0, Value.bool false, Value.int .i64 0, Value.int .i64 0, Value.int .i64 0, Value.int .i64 0, Value.int .i64 0, Value.int .i64 0, Value.int .i64 0, Value.int .i64 0, Value.int .i64 0, Value.int .i64 0, Value.string { data := #[] }, Value.string { data := #[] }, Value.string { data := #[] }, Value.string { data := #[] }, Value.int .i64 0, Value.int .i64 0, Value.int .i64 0, Value.int .i64 0, Value.int .i64 0, Value.int .i64 0, Value.int .i64 0, Value.int .i64 0, Value.bool false]).bind fun cs => lay cs [(23, 23), (46, 23)] [.agg (knE y).toArray, .agg (knE z).toArray]) = some (knE x ++ (knE y ++ knE z)) := by kernel_rfl
theorem two_ilay (x y : I2) : ((spl 0 (pc x) [Value.int .i64 0, Value.int .i64 0, Value.int .i64 0, Value.int .i64 0]).bind fun cs => lay cs [(2, 2)] [.agg (pc y).toArray]) = some (pc x ++ pc y) := by kernel_rfl
theorem low1 : ∀ p ∈ L1, LowK p := fun p hp => by
  simp only [List.mem_cons, List.not_mem_nil, or_false] at hp
  rcases hp with rfl | rfl <;> exact ⟨by decide, by decide, by decide +kernel⟩
theorem low2 : ∀ p ∈ L2, LowK p := fun p hp => by
  simp only [List.mem_cons, List.not_mem_nil, or_false] at hp
  subst hp; exact ⟨by decide, by decide, by decide +kernel⟩
theorem low3 : ∀ p ∈ L3, LowK p := fun p hp => by
  simp only [List.mem_cons, List.not_mem_nil, or_false] at hp
  rcases hp with rfl | rfl | rfl <;> exact ⟨by decide, by decide, by decide +kernel⟩
theorem pl1 : planL (plC L1) Dp.zero = ([(1, 1), (0, 1)], []) := by rw [plC_self (by decide) (by decide)]; exact plan_1
theorem pl2 : planL (plC L2) Dp.zero = ([], [(1, 1)]) := by rw [plC_self (by decide) (by decide)]; exact plan_2
theorem pl3 : planL (plC L3) Dp.zero = ([(0, 1)], [(2, 1)]) := by rw [plC_self (by decide) (by decide)]; exact plan_3
set_option maxHeartbeats 8000000 in
theorem law_Runs_s : RunsOk := by
  intro m
  refine law20_ExecRuns_go (by simp [Try.f33]) ?_
  have H := Hq.refl m []
  have hz : ∀ r, r < 7 → 0 ≤ Dp.zero.g r ∧ Dp.zero.g r ≤ 1000 := fun r _ => by rw [Dp.zero_g]; omega
  simp (disch := omega) only [go_sem, undef]
  refine newQ H fun b1 M f H => ?_
  have H := H.toRow 1 2 2 rfl (by omega)
  simp (disch := omega) only [go_sem, undef]
  refine callQ H (law_known_s (l := [0, 1]) (Own.rdsN (by decide) (fun _ => rfl) rfl (H.at 0 rfl)) (by decide) 0 1 2) fun M f H => ?_
  have H := dropQ0 H
  simp (disch := omega) only [go_sem, undef]
  refine newQ H fun b2 M f H => ?_
  have H := H.toRow 1 1 1 rfl (by omega)
  simp (disch := omega) only [go_sem, undef]
  refine callQ H (law_known_s (l := [1]) (Own.rdsN (by decide) (fun _ => rfl) rfl (H.at 0 rfl)) (by decide) 1 1 1) fun M f H => ?_
  have H := dropQ0 H
  simp (disch := omega) only [go_sem, undef, two_lay]
  refine newQ H fun b3 M f H => ?_
  have hL : knE ((0, 1), knC 2 (dpL [0, 1] 2)) ++ knE ((1, 1), knC 1 (dpL [1] 1)) = L1.flatMap knE := rfl
  rw [hL] at H
  have H := H.toRow 23 2 2 (by rw [fm_len knE_len]; rfl) (by omega)
  have hT : (L1.flatMap knE).take (2 * 23) = L1.flatMap knE := rfl
  rw [hT] at H
  simp (disch := omega) only [go_sem, undef]
  refine callN H (exec_Plan_q (d0 := Dp.zero) (R := L1) (Own.rdsN (by decide) knE_len rfl (H.at 0 rfl)) (by decide) low1 hz) fun v M A ⟨a, b, e1, e2⟩ f H => ?_
  subst e1
  subst e2
  have H := (H.split).drop 2
  rw [pl1] at H
  obtain ⟨K1, hK1⟩ : ∃ K1, K1 = kmap (plC L1) [(1, 1), (0, 1)] := ⟨_, rfl⟩
  have h1l : K1.length = 2 := by rw [hK1]; rfl
  have h1m : K1.map Prod.fst = [(1, 1), (0, 1)] := by rw [hK1]; rfl
  have H : Hq m M [] [ownA 40 23 a 2 (K1.flatMap knE), ownA T_api_Inst 2 b 0 (prs [])] := by
    subst hK1; exact H
  clear hK1
  simp (disch := omega) only [go_sem, undef]
  refine newQ H fun b1 M f H => ?_
  have H := H.toRow 1 2 2 rfl (by omega)
  simp (disch := omega) only [go_sem, undef]
  refine callQ H (law_known_s (l := [0, 1]) (Own.rdsN (by decide) (fun _ => rfl) rfl (H.at 0 rfl)) (by decide) 0 1 2) fun M f H => ?_
  have H := dropQ0 H
  simp (disch := omega) only [go_sem, undef]
  refine newQ H fun b3 M f H => ?_
  have hL : knE ((0, 1), knC 2 (dpL [0, 1] 2)) = L2.flatMap knE := rfl
  rw [hL] at H
  have H := H.toRow 23 1 1 (by rw [fm_len knE_len]; rfl) (by omega)
  have hT : (L2.flatMap knE).take (1 * 23) = L2.flatMap knE := rfl
  rw [hT] at H
  simp (disch := omega) only [go_sem, undef]
  refine callN H (exec_Plan_q (d0 := Dp.zero) (R := L2) (Own.rdsN (by decide) knE_len rfl (H.at 0 rfl)) (by decide) low2 hz) fun v M A ⟨a2, b2, e1, e2⟩ f H => ?_
  subst e1
  subst e2
  have H := (H.split).drop 2
  rw [pl2] at H
  obtain ⟨K2, hK2⟩ : ∃ K2, K2 = kmap (plC L2) [] := ⟨_, rfl⟩
  have H : Hq m M [] [ownA 40 23 a2 0 (K2.flatMap knE), ownA T_api_Inst 2 b2 1 (prs [(1, 1)]), ownA 40 23 a 2 (K1.flatMap knE), ownA T_api_Inst 2 b 0 (prs [])] := by
    subst hK2; exact H
  clear hK2
  simp (disch := omega) only [go_sem, undef]
  refine callQ H (law_known_s (l := []) (sv := .slice none 0 0) ⟨fun _ => rfl, none, 0, rfl, Nat.le_refl _, .inl rfl⟩ (by decide) 0 1 0) fun M f H => ?_
  simp (disch := omega) only [go_sem, undef]
  refine newQ H fun b1 M f H => ?_
  have H := H.toRow 1 2 2 rfl (by omega)
  simp (disch := omega) only [go_sem, undef]
  refine callQ H (law_known_s (l := [0, 1]) (Own.rdsN (by decide) (fun _ => rfl) rfl (H.at 0 rfl)) (by decide) 0 2 0) fun M f H => ?_
  have H := dropQ0 H
  simp (disch := omega) only [go_sem, undef]
  refine newQ H fun b1 M f H => ?_
  have H := H.toRow 1 3 3 rfl (by omega)
  simp (disch := omega) only [go_sem, undef]
  refine callQ H (law_known_s (l := [0, 0, 1]) (Own.rdsN (by decide) (fun _ => rfl) rfl (H.at 0 rfl)) (by decide) 1 1 0) fun M f H => ?_
  have H := dropQ0 H
  simp (disch := omega) only [go_sem, undef, three_lay]
  refine newQ H fun b3 M f H => ?_
  have hL : knE ((0, 1), knC 0 (dpL [] 0)) ++ (knE ((0, 2), knC 0 (dpL [0, 1] 2)) ++ knE ((1, 1), knC 0 (dpL [0, 0, 1] 3))) = L3.flatMap knE := rfl
  rw [hL] at H
  have H := H.toRow 23 3 3 (by rw [fm_len knE_len]; rfl) (by omega)
  have hT : (L3.flatMap knE).take (3 * 23) = L3.flatMap knE := rfl
  rw [hT] at H
  simp (disch := omega) only [go_sem, undef]
  refine callN H (exec_Plan_q (d0 := Dp.zero) (R := L3) (Own.rdsN (by decide) knE_len rfl (H.at 0 rfl)) (by decide) low3 hz) fun v M A ⟨a3, b3, e1, e2⟩ f H => ?_
  subst e1
  subst e2
  have H := (H.split).drop 2
  rw [pl3] at H
  obtain ⟨K3, hK3⟩ : ∃ K3, K3 = kmap (plC L3) [(0, 1)] := ⟨_, rfl⟩
  have h3l : K3.length = 1 := by rw [hK3]; rfl
  have h3m : K3.map Prod.fst = [(0, 1)] := by rw [hK3]; rfl
  have H : Hq m M [] [ownA 40 23 a3 1 (K3.flatMap knE), ownA T_api_Inst 2 b3 1 (prs [(2, 1)]), ownA 40 23 a2 0 (K2.flatMap knE), ownA T_api_Inst 2 b2 1 (prs [(1, 1)]), ownA 40 23 a 2 (K1.flatMap knE), ownA T_api_Inst 2 b 0 (prs [])] := by
    subst hK3; exact H
  clear hK3
  simp (disch := omega) only [go_sem, undef]
  refine callN H (law_ids_s (Own.rdsN (by decide) knE_len h1l (H.at 4 rfl)) (by omega)) fun v M A e f H => ?_
  rw [h1m] at e
  subst e
  simp (disch := omega) only [go_sem, undef]
  have hc9 : callable Try.prog 9 = true := by kernel_rfl
  simp (disch := omega) only [go_sem, undef, xs_callv, hc9]
  refine callQ H (law_at_s 1 1 _) fun M f H => ?_
  simp (disch := omega) only [go_sem, undef, xs_callv, hc9]
  refine callQ H (law_at_s 0 1 _) fun M f H => ?_
  simp (disch := omega) only [go_sem, undef, two_ilay]
  refine newQ H fun b11 M f H => ?_
  have hp : pc (1, 1) ++ pc (0, 1) = prs [(1, 1), (0, 1)] := rfl
  rw [hp] at H
  have H := H.toRow 2 2 2 (by rw [prs_len]; rfl) (by omega)
  have hT : (prs [((1 : Int), (1 : Int)), (0, 1)]).take (2 * 2) = prs [(1, 1), (0, 1)] := rfl
  rw [hT] at H
  simp (disch := omega) only [go_sem, undef]
  refine callQ H (same_Inst_s (A := [(1, 1), (0, 1)]) (B := [(1, 1), (0, 1)]) (Own.rdsN (by decide) pc_len rfl (H.at 1 rfl)) (Own.rdsN (by decide) pc_len rfl (H.at 0 rfl)) (by decide)) fun M f H => ?_
  have H := (H.drop 0).drop 0
  refine Own.formK (H.at 0 rfl) fun a3a a3c ea => ?_
  subst ea
  refine Own.formK (H.at 1 rfl) fun b3a b3c ea => ?_
  subst ea
  refine Own.formK (H.at 2 rfl) fun a2a a2c ea => ?_
  subst ea
  refine Own.formK (H.at 3 rfl) fun b2a b2c ea => ?_
  subst ea
  refine Own.formK (H.at 5 rfl) fun ba bc ea => ?_
  subst ea
  have h00 : ((0 : Nat) : Int) = 0 := rfl
  have htt : decide ([((1 : Int), (1 : Int)), (0, 1)] = [(1, 1), (0, 1)]) = true := by decide
  simp (disch := omega) only [go_sem, undef, xs_callv, hc9, htt, dec_t h00]
  refine callQ H (law_at_s 1 1 _) fun M f H => ?_
  simp (disch := omega) only [go_sem, undef]
  refine newQ H fun b12 M f H => ?_
  have H := H.toRow 2 1 1 rfl (by omega)
  simp (disch := omega) only [go_sem, undef]
  refine callQ H (same_Inst_s (A := [(1, 1)]) (B := [(1, 1)]) (Own.rdsN (by decide) pc_len rfl (H.at 4 rfl)) (Own.rdsN (by decide) pc_len rfl (H.at 0 rfl)) (by decide)) fun M f H => ?_
  have H := H.drop 0
  have ht1 : decide ([((1 : Int), (1 : Int))] = [(1, 1)]) = true := by decide
  simp (disch := omega) only [go_sem, undef, ht1]
  refine callN H (law_ids_s (Own.rdsN (by decide) knE_len h3l (H.at 0 rfl)) (by omega)) fun v M A e f H => ?_
  rw [h3m] at e
  subst e
  simp (disch := omega) only [go_sem, undef, xs_callv, hc9]
  refine callQ H (law_at_s 0 1 _) fun M f H => ?_
  simp (disch := omega) only [go_sem, undef]
  refine newQ H fun b13 M f H => ?_
  have H := H.toRow 2 1 1 rfl (by omega)
  simp (disch := omega) only [go_sem, undef]
  refine callQ H (same_Inst_s (A := [(0, 1)]) (B := [(0, 1)]) (Own.rdsN (by decide) pc_len rfl (H.at 1 rfl)) (Own.rdsN (by decide) pc_len rfl (H.at 0 rfl)) (by decide)) fun M f H => ?_
  have H := (H.drop 0).drop 0
  have ht2 : decide ([((0 : Int), (1 : Int))] = [(0, 1)]) = true := by decide
  simp (disch := omega) only [go_sem, undef, xs_callv, hc9, ht2]
  refine callQ H (law_at_s 2 1 _) fun M f H => ?_
  simp (disch := omega) only [go_sem, undef]
  refine newQ H fun b14 M f H => ?_
  have H := H.toRow 2 1 1 rfl (by omega)
  simp (disch := omega) only [go_sem, undef]
  refine callQ H (same_Inst_s (A := [(2, 1)]) (B := [(2, 1)]) (Own.rdsN (by decide) pc_len rfl (H.at 2 rfl)) (Own.rdsN (by decide) pc_len rfl (H.at 0 rfl)) (by decide)) fun M f H => ?_
  have ht3 : decide ([((2 : Int), (1 : Int))] = [(2, 1)]) = true := by decide
  simp (disch := omega) only [go_sem, undef, ht3]
  exact ⟨rfl, H.fr⟩
end Go.Fw

set_option linter.unusedSimpArgs false
set_option linter.unusedVariables false
namespace Go.Fw
open Go.Proofs
theorem cpyRow {P : Program} {m0 m : Mem} {Sx : List Nat} {L : List As} {T : TypeId} {b n N k c cc : Nat} {sa : Option Addr} {z cells : List Value} {K : Value → Mem → Prop} {l : Lk K} {l1 : Lk (Value.slice (some ⟨b, 0, none⟩) N c)} {l2 : Lk m}
    (H : Hq m0 m Sx (cellA b (.cells z.toArray T (0, 0)) :: L)) (hld : ldS m sa (n * k) = some cells) (hn : n ≤ N) (hlen : cells.length ≤ z.length) (h1 : cells.all Value.oneCell' = true)
    (hK : ∀ M, Fr m M [b] → Hq m0 M Sx (cellA b (.cells (cells ++ z.drop cells.length).toArray T (0, 0)) :: L) → K (.int .i64 (n : Nat)) M) :
    cpyQ P k (.slice (some ⟨b, 0, none⟩) N c) (.slice sa n cc) m K l l1 l2 := by
  have h : stQ m ⟨b, 0, none⟩ 0 cells (fun M => K (.int .i64 (n : Nat)) M) ⟨⟩ ⟨⟩ := stQ' (off := 0) 0 H rfl (by simpa using hlen) h1 fun M f H2 => hK M f (by simpa using H2)
  obtain ⟨m', h2, h3⟩ := h
  show ∃ cells, ldS m sa (min n N * k) = some cells ∧ ∃ m', stCells m ⟨b, 0, none⟩ 0 cells = some m' ∧ K (.int .i64 (min n N : Nat)) m'
  rw [Nat.min_eq_left hn]
  exact ⟨cells, hld, m', h2, h3⟩
def padK (mk : Kn) : List Kn := List.replicate 80 mk
theorem padK_len (mk : Kn) : (padK mk).length = 80 := List.length_replicate ..
set_option maxHeartbeats 8000000 in
theorem book_Roomy_s {m : Mem} {R : List Kn} {sv : Value} (hR : RdS 23 knE m sv R) (hl : R.length ≤ 100) (mk : Kn) :
    CN Try.prog n_book_Roomy_exec_Known [sv, .agg (knE mk).toArray] m fun v A => A = ownA 40 23 v (R.length + 80) ((R ++ padK mk).flatMap knE) := by
  obtain ⟨sa, sc, esv⟩ := hR.form
  subst esv
  refine book_Roomy_exec_Known_go (by simp [Try.f33]) ?_
  have H := Hq.refl m []
  obtain ⟨W, hW⟩ : ∃ W, W = 80 := ⟨_, rfl⟩
  have hpad : padK mk = List.replicate W mk := by rw [hW]; rfl
  rw [hpad]
  clear hpad
  have hN : ((R.length : Int) + 80).toNat = R.length + 80 := by omega
  simp (disch := omega) only [go_sem, undef]
  refine newQ H fun b3 M f H => ?_
  simp (disch := omega) only [go_sem, undef]
  refine newQ H fun b5 M f H => ?_
  obtain ⟨z, hz, H⟩ : ∃ z : List Value, z.length = (R.length + 80) * 23 ∧ Hq m M [] [cellA b5 (.cells z.toArray 40 (0, 0)), cellA b3 (.cells (knE mk).toArray 40 (0, 0))] := ⟨_, by rw [hN, List.length_flatten, List.map_replicate, List.sum_replicate_nat]; rfl, H⟩
  simp (disch := omega) only [go_sem, undef, hN]
  refine cpyRow (cells := R.flatMap knE) H (ldS_of (hR.frame H.fr)) (by omega) (by rw [fm_len knE_len, hz]; omega) (List.all_eq_true.2 fun v hv => by
    obtain ⟨p, _, hv⟩ := List.mem_flatMap.1 hv
    exact List.all_eq_true.1 (knE_oneP p) v hv) fun M f H => ?_
  have htl0 : (z.drop (R.flatMap knE).length).length = (W - 0) * 23 := by rw [List.length_drop, fm_len knE_len, hz]; omega
  simp (disch := omega) only [go_sem, undef]
  refine loopQ_intro (fun k E m' => ∃ i tail, i ≤ W ∧ k = W - i ∧ E = [(3, .pointer (some ⟨b3, 0, none⟩)), (5, .slice (some ⟨b5, 0, none⟩) (R.length + 80) (R.length + 80)), (6, .int .i64 ((R.length + i : Nat) : Int))] ∧ tail.length = (W - i) * 23 ∧
    Hq m m' [] [cellA b5 (.cells ((R ++ List.replicate i mk).flatMap knE ++ tail).toArray 40 (0, 0)), cellA b3 (.cells (knE mk).toArray 40 (0, 0))]) W rfl ⟨0, z.drop (R.flatMap knE).length, by omega, by omega, rfl, htl0, by rw [List.replicate_zero, List.append_nil]; exact H⟩ ?_
  clear H f
  rintro k E M ⟨i, tail, hi, rfl, rfl, htl, H⟩
  simp (disch := omega) only [go_sem, undef]
  refine condB_dec (fun hlt => ?_) (fun hlt => ?_)
  · have hlt : i < W := by omega
    have hfl : ((R ++ List.replicate i mk).flatMap knE).length = (R.length + i) * 23 := by rw [fm_len knE_len]; simp
    simp (disch := omega) only [go_sem, undef, H.cs]
    refine stQ' 0 H rfl (by rw [List.length_append, hfl, htl, knE_len]; omega) (knE_oneP mk) fun M f H => ?_
    have hc : (((R ++ List.replicate i mk).flatMap knE ++ tail).take ((R.length + i) * 23) ++ knE mk ++ ((R ++ List.replicate i mk).flatMap knE ++ tail).drop ((R.length + i) * 23 + (knE mk).length)) = (R ++ List.replicate (i + 1) mk).flatMap knE ++ tail.drop 23 := by
      rw [← hfl, List.take_left, knE_len, ← List.drop_drop, List.drop_left, List.replicate_succ', ← List.append_assoc, List.flatMap_append (xs := R ++ List.replicate i mk)]
      simp
    have H : Hq m M [] [cellA b5 (.cells ((R ++ List.replicate (i + 1) mk).flatMap knE ++ tail.drop 23).toArray 40 (0, 0)), cellA b3 (.cells (knE mk).toArray 40 (0, 0))] := by rw [← hc]; exact H
    simp (disch := omega) only [go_sem, undef]
    exact handN_intro (W - (i + 1)) (by omega) ⟨i + 1, tail.drop 23, by omega, by omega, rfl, by rw [List.length_drop, htl]; omega, H⟩
  · have e : i = W := by omega
    subst e
    have ht : tail = [] := List.eq_nil_of_length_eq_zero (by omega)
    subst ht
    have hfl : ((R ++ List.replicate i mk).flatMap knE).length = (R.length + 80) * 23 := by rw [fm_len knE_len, List.length_append, List.length_replicate, hW]
    have H := H.ofCell (n := R.length + 80) (cap := R.length + 80) hfl (by simpa using hfl)
    simp (disch := omega) only [go_sem, undef]
    exact ⟨_, rfl, H.at 0 rfl, H.fr, fun b hb => (H.nw _ (List.mem_cons_self ..) b hb).resolve_right (by simp)⟩
theorem padK_get {R : List Kn} {mk : Kn} {i : Nat} (h : R.length ≤ i) (h2 : i < R.length + 80) : (R ++ padK mk)[i]? = some mk := by
  rw [List.getElem?_append_right h]
  unfold padK
  rw [List.getElem?_replicate, if_pos (by omega)]
set_option maxHeartbeats 8000000 in
theorem book_Intact_s {m : Mem} {R : List Kn} {fv sv : Value} (hR : RdS 23 knE m sv R) (hl : R.length ≤ 100) (mk : Kn) (hF : RdS 23 knE m fv (R ++ padK mk)) :
    MC Try.prog n_book_Intact_exec_Known [fv, sv, .agg (knE mk).toArray] m fun v M => v = .bool true ∧ Fr m M [] := by
  obtain ⟨sa, sc, esv⟩ := hR.form
  subst esv
  obtain ⟨fa, fc, efv⟩ := hF.form
  subst efv
  have hlen : (R ++ padK mk).length = R.length + 80 := by rw [List.length_append, padK_len]
  rw [hlen] at hF ⊢
  have htk : (R ++ padK mk).take R.length = R := List.take_left
  have hS := hF.takeN hlen (j := R.length) (by omega)
  rw [htk] at hS
  have hcap := hF.cap hlen
  have hget := fun i h h2 => padK_get (R := R) (mk := mk) (i := i) h h2
  generalize R ++ padK mk = F at *
  obtain ⟨N, hN⟩ : ∃ N, N = R.length := ⟨_, rfl⟩
  refine book_Intact_exec_Known_go (by simp [Try.f33]) ?_
  have H := Hq.refl m []
  simp (disch := omega) only [go_sem, undef]
  refine newQ H fun b5 M f H => ?_
  have h80 : ((R.length + 80 : Nat) : Int) = (R.length : Int) + 80 := by omega
  simp (disch := omega) only [go_sem, undef, dec_t h80, decide_true]
  refine callQ H (same_Known_s (hS.frame H.fr) (hR.frame H.fr) (by omega)) fun M f H => ?_
  simp (disch := omega) only [go_sem, undef, dec_t (show R = R from rfl)]
  refine loopQ_intro (fun k E m' => ∃ i, R.length ≤ i ∧ i ≤ R.length + 80 ∧ k = R.length + 80 - i ∧ E = [(0, .slice fa (R.length + 80) fc), (5, .pointer (some ⟨b5, 0, none⟩)), (7, .int .i64 (i : Nat))] ∧
    Hq m m' [] [cellA b5 (.cells (knE mk).toArray 40 (0, 0))]) 80 rfl ⟨R.length, by omega, by omega, by omega, rfl, H⟩ ?_
  clear H f
  rintro k E M ⟨i, hi1, hi2, rfl, rfl, H⟩
  simp (disch := omega) only [go_sem, undef]
  refine condB_dec (fun hlt => ?_) (fun hlt => ?_)
  · have hlt : i < R.length + 80 := by omega
    refine RdS.elN (hF.frame H.fr) hlen hlt (by decide) fun bx o p hp hix hE => ?_
    rw [hget i hi1 hlt] at hp
    have ep : p = mk := (Option.some.inj hp).symm
    subst ep
    simp (disch := omega) only [go_sem, undef, hix, hE.lda0, H.cs, knE_eq, dec_t (show p = p from rfl)]
    exact handN_intro (R.length + 80 - (i + 1)) (by omega) ⟨i + 1, by omega, by omega, by omega, rfl, H⟩
  · simp (disch := omega) only [go_sem, undef]
    exact ⟨rfl, H.fr⟩
end Go.Fw

set_option linter.unusedSimpArgs false
set_option linter.unusedVariables false
namespace Go.Fw
open Go.Proofs
abbrev mkK : Kn := ((0, -3), Cel.zero)
theorem mk_spl : ((spl 0 (pc (0, -3)) [Value.int .i64 0, Value.int .i64 0, Value.int .i64 0, Value.int .i64 0, Value.int .i64 0, Value.int .i64 0, Value.int .i64 0, Value.int .i64 0, Value.int .i64 0, Value.int .i64 0, Value.string { data := #[] }, Value.string { data := #[] }, Value.string { data := #[] }, Value.string { data := #[] }, Value.int .i64 0, Value.int .i64 0, Value.int .i64 0, Value.int .i64 0, Value.int .i64 0, Value.int .i64 0, Value.int .i64 0, Value.int .i64 0, Value.bool false]).bind fun cs => some cs) = some (knE mkK) := by kernel_rfl
theorem kn_d221 (p : Kn) : ((knE p).drop 2).take 21 = p.2.cs := rfl
set_option maxHeartbeats 8000000 in
theorem law_Plans_s (hRuns : RunsOk) {m : Mem} {d : Dp} {R : List Kn} {sv : Value} (hd : okD d) (hR : RdS 23 knE m sv R) (hok : ∀ p ∈ R, okK p) (hl : R.length ≤ 9223372036854775807) :
    MC Try.prog n_law20_ExecPlans [d.v, sv] m fun v M => v = .bool true ∧ Fr m M [] := by
  refine law20_ExecPlans_go (by simp [Try.f33]) ?_
  have H := Hq.refl m []
  simp (disch := omega) only [go_sem, undef]
  refine newQ H fun b2 M f H => ?_
  simp (disch := omega) only [go_sem, undef]
  refine callN H (law_few_s (hR.frame f) hok hl 30 (by omega)) fun u M A e f H => ?_
  subst e
  simp (disch := omega) only [go_sem, undef]
  have hq : dwJ d 0 = d := dwJ_0 d
  refine loopQ_intro (fun k E m' => ∃ r, r ≤ 7 ∧ k = 7 - r ∧ E = [(1, u), (2, .pointer (some ⟨b2, 0, none⟩)), (5, .int .i64 (r : Nat))] ∧
    Hq m m' [] [ownA 40 23 u (fewL R 30).length ((fewL R 30).flatMap knE), cellA b2 (.cells (dv (dwJ d r)).toArray 30 (0, 0))]) 7 rfl ⟨0, by omega, rfl, rfl, by rw [hq]; exact H⟩ ?_
  clear H f
  rintro k E m' ⟨r, hr, rfl, rfl, H⟩
  simp (disch := omega) only [go_sem, undef]
  refine condB_dec (fun hr7 => ?_) (fun hr7 => ?_)
  · have hr7 : r < 7 := by omega
    have hdr : R64 (d.g r) := by rw [Dp.g_lt _ hr7]; exact hd _
    simp (disch := omega) only [go_sem, undef, H.cs, dwJ_g _ hr7]
    refine callQ H (book_Within_s (d.g r) 0 5 hdr (by omega) (by omega) (by omega) _) fun M f H => ?_
    simp (disch := omega) only [go_sem, undef, H.cs]
    refine wrQ1 H fun M f H => ?_
    simp (disch := omega) only [go_sem, undef]
    exact handN_intro (7 - (r + 1)) (by omega) ⟨r + 1, by omega, rfl, rfl, by rw [← dwJ_up _ hr7]; exact H⟩
  · have e : r = 7 := by omega
    subst e
    rw [dwJ_7] at H
    have hd0 := dw5_in d
    generalize dw5 d = d0 at *
    have hlow := fewL_low (l := R) (n := 30)
    have hlen := fewL_len R 30
    generalize fewL R 30 = R at *
    refine Own.formK (H.at 0 rfl) fun ua uc e => ?_
    subst e
    have hRS : ∀ {M : Mem}, Own M 40 23 (.slice ua R.length uc) R.length (R.flatMap knE) → RdS 23 knE M (.slice ua R.length uc) R := fun h => Own.rds (by decide) knE_len h
    simp (disch := omega) only [go_sem, undef, mk_spl]
    refine newQ H fun b6 M f H => ?_
    simp (disch := omega) only [go_sem, undef]
    refine stwQ0 H rfl rfl fun M f H => ?_
    simp (disch := omega) only [go_sem, undef, H.cs, knE_take23]
    refine callN H (book_Roomy_s (hRS (H.at 1 rfl)) (by omega) mkK) fun v M A e f H => ?_
    subst e
    refine Own.formK (H.at 0 rfl) fun fa fc e => ?_
    subst e
    have hFl : (R ++ padK mkK).length = R.length + 80 := by rw [List.length_append, padK_len]
    have hFR : ∀ {M : Mem}, Own M 40 23 (.slice fa (R.length + 80) fc) (R.length + 80) ((R ++ padK mkK).flatMap knE) → RdS 23 knE M (.slice fa (R.length + 80) fc) (R ++ padK mkK) := fun h => Own.rdsN (by decide) knE_len hFl h
    have htk : (R ++ padK mkK).take R.length = R := List.take_left
    have hcut : ∀ {M : Mem}, Own M 40 23 (.slice fa (R.length + 80) fc) (R.length + 80) ((R ++ padK mkK).flatMap knE) → RdS 23 knE M (.slice fa R.length fc) R := fun h => by
      have := (hFR h).takeN hFl (j := R.length) (by omega)
      rwa [htk] at this
    have hcap := (hFR (H.at 0 rfl)).cap hFl
    simp (disch := omega) only [go_sem, undef, H.cs]
    refine callN H (exec_Plan_q (d0 := d0) (hcut (H.at 0 rfl)) (by omega) hlow hd0) fun v M A ⟨a, b, e1, e2⟩ f H => ?_
    subst e1
    subst e2
    have H := H.split
    simp (disch := omega) only [go_sem, undef, H.cs]
    refine callN H (law_row_s (hRS (H.at 4 rfl)) (by omega)) fun w M A e f H => ?_
    subst e
    simp (disch := omega) only [go_sem, undef, H.cs]
    refine callN H (ref19_Plan_s (d0 := d0) (Own.rds (by decide) knE_len (H.at 0 rfl)) (by omega) hlow hd0) fun v M A ⟨a', b', e1, e2⟩ f H => ?_
    subst e1
    subst e2
    have H := (H.split).drop 2
    have hKl := kmap_len (plC R) (planL (plC R) d0).1
    have hKb : ((planL (plC R) d0).1).length ≤ 30 := Nat.le_trans (plan_len _ _) (Nat.le_trans (plC_PC R).len hlen)
    have hXb := plan_mis (plC R) d0
    obtain ⟨K, hK⟩ : ∃ K, K = kmap (plC R) (planL (plC R) d0).1 := ⟨_, rfl⟩
    obtain ⟨X1, hX1⟩ : ∃ X1, X1 = (planL (plC R) d0).2 := ⟨_, rfl⟩
    rw [← hX1] at hXb
    rw [← hK] at hKl
    have H : Hq m M [] [ownA 52 23 a' K.length (K.flatMap knE), ownA T_api_Inst 2 b' X1.length (prs X1), ownA 40 23 a K.length (K.flatMap knE), ownA T_api_Inst 2 b X1.length (prs X1), ownA 40 23 (.slice fa (R.length + 80) fc) (R.length + 80) ((R ++ padK mkK).flatMap knE), cellA b6 (.cells (knE mkK).toArray 40 (0, 0)), ownA 40 23 (.slice ua R.length uc) R.length (R.flatMap knE), cellA b2 (.cells (dv d0).toArray 30 (0, 0))] := by
      subst hK hX1; exact H
    clear hK hX1
    refine Own.formK (H.at 0 rfl) fun aa' ac' e => ?_
    subst e
    refine Own.formK (H.at 2 rfl) fun aa ac e => ?_
    subst e
    have hXR : ∀ {M : Mem} {v : Value}, Own M T_api_Inst 2 v X1.length (prs X1) → RdS 2 pc M v X1 := fun h => Own.rds (by decide) pc_len h
    have hKR : ∀ {M : Mem} {v : Value} {T : TypeId}, Own M T 23 v K.length (K.flatMap knE) → RdS 23 knE M v K := fun h => Own.rds (by decide) knE_len h
    simp (disch := omega) only [go_sem, undef, dec_t (show (K.length : Int) = K.length from rfl)]
    refine callQ H (same_Inst_s (hXR (H.at 3 rfl)) (hXR (H.at 1 rfl)) (by omega)) fun M f H => ?_
    simp (disch := omega) only [go_sem, undef, dec_t (show (K.length : Int) = K.length from rfl), dec_t (show X1 = X1 from rfl)]
    refine loopQ_intro (fun k E m' => ∃ j, j ≤ K.length ∧ k = K.length - j ∧ E = [(1, .slice ua R.length uc), (6, .pointer (some ⟨b6, 0, none⟩)), (7, .slice fa (R.length + 80) fc), (8, .slice aa K.length ac), (10, .slice aa' K.length ac'), (12, .int .i64 (j : Nat))] ∧
      Hq m m' [] [ownA 52 23 (.slice aa' K.length ac') K.length (K.flatMap knE), ownA T_api_Inst 2 b' X1.length (prs X1), ownA 40 23 (.slice aa K.length ac) K.length (K.flatMap knE), ownA T_api_Inst 2 b X1.length (prs X1), ownA 40 23 (.slice fa (R.length + 80) fc) (R.length + 80) ((R ++ padK mkK).flatMap knE), cellA b6 (.cells (knE mkK).toArray 40 (0, 0)), ownA 40 23 (.slice ua R.length uc) R.length (R.flatMap knE), cellA b2 (.cells (dv d0).toArray 30 (0, 0))]) K.length rfl ⟨0, by omega, by omega, rfl, H⟩ ?_
    clear H f
    rintro k E M ⟨j, hj, rfl, rfl, H⟩
    simp (disch := omega) only [go_sem, undef]
    refine condB_dec (fun hjl => ?_) (fun hjl => ?_)
    · have hjl : j < K.length := by omega
      refine RdS.elK (hKR (H.at 2 rfl)) hjl (by decide) fun bx o p hp hix hE => ?_
      refine RdS.elK (hKR (H.at 0 rfl)) hjl (by decide) fun bx' o' p' hp' hix' hE' => ?_
      have ep : p' = p := by rw [hp] at hp'; exact (Option.some.inj hp').symm
      rw [ep] at hE'
      simp (disch := omega) only [go_sem, undef, hix, hE.lda0, hix', hE'.lda0, dec_t (show p.1 = p.1 from rfl), hE.lda, hE'.lda, kn_d221, dec_t (show p.2 = p.2 from rfl)]
      exact handN_intro (K.length - (j + 1)) (by omega) ⟨j + 1, by omega, rfl, rfl, H⟩
    · simp (disch := omega) only [go_sem, undef, H.cs]
      refine callQ H (book_Intact_s (hRS (H.at 6 rfl)) (by omega) mkK (hFR (H.at 4 rfl))) fun M f H => ?_
      simp (disch := omega) only [go_sem, undef]
      refine callQ H (hRuns _) fun M f H => ?_
      simp (disch := omega) only [go_sem, undef]
      exact ⟨rfl, H.fr⟩
end Go.Fw
