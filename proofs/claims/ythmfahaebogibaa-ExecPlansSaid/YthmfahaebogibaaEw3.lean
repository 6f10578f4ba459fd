import Derived.Test.YthmfahaebogibaaEw2
import Derived.Test.YthmfahaebogibaaPl
import Derived.Test.YthmfahaebogibaaEw1
set_option linter.unusedVariables false
set_option linter.unusedSimpArgs false
set_option linter.unusedSimpArgs false
set_option linter.unusedVariables false
namespace Go.Fw
open Go.Proofs
/-- a plan under way -/
abbrev planA (pb rm : Nat) (done : Dp) (ov : Value) (C : LogL) (O : List I2) : As :=
  starA (mapA rm (cv C)) (starA (cellA pb (.cells (dv done ++ [Value.map (some rm), ov]).toArray T_exec_plan (0, 0))) (ownA 40 23 ov O.length (O.flatMap (knc C))))
theorem GRd.congr {m : Mem} {n : Nat} {ev : Value} {E E' : Nat → List Int} (h : GRd m n ev E) (e : ∀ v, v < n → E v = E' v) : GRd m n ev E' := by
  obtain ⟨a, c, L, h1, h2, h3, h4⟩ := h
  exact ⟨a, c, L, h1, h2, h3, fun v hv => by rw [← e v hv]; exact h4 v hv⟩
theorem upD_app (d : Dp) (a b : List I2) : upD d (a ++ b) = upD (upD d a) b := List.foldl_append ..
theorem Hq.keepT {m0 m N : Mem} {S T : List Nat} {A : As} {L : List As} (H : Hq m0 m S (A :: L)) (f : Fr m N T) (hT : ∀ b ∈ T, b ∈ A.wp) : Hps N L :=
  Hps.of fun B hB => As.fr (H.hs.2.mem B hB) f fun x hx hxT => ((List.pairwise_cons.1 H.dj).1 B hB).1 x (hT x hxT) hx
theorem dv_app_set (d : Dp) (x y : Value) (k : Nat) (h : k < 7) (z : Int) : (dv d ++ [x, y]).set k (.int .i64 z) = dv (Dp.up d k z) ++ [x, y] := by
  rw [List.set_append_left _ _ (by rw [dv_len]; exact h), dv_set d k z h]
theorem dv_set8 (d : Dp) (x y v : Value) : (dv d ++ [x, y]).set 8 v = dv d ++ [x, v] := rfl
set_option maxHeartbeats 8000000 in
theorem exec_do_s {m : Mem} {pb rm : Nat} {done : Dp} {ov sv : Value} {C : LogL} {O row : List I2} (hA : (starA (ownA T_api_Inst 2 sv row.length (prs row)) (planA pb rm done ov C O)).p m)
    (hnd : row.Nodup) (hl : row.length < 40) (hO : O.length + row.length ≤ 1000) (hrow : ∀ i ∈ row, (0 ≤ i.1 ∧ i.1 < 7) ∧ 0 ≤ i.2 ∧ i.2 ≤ 1000) :
    CM Try.prog n_exec_plan_do [lpp pb, sv] m (starA (ownA T_api_Inst 2 sv row.length (prs row)) (planA pb rm done ov C O)) fun v A => v = .tuple #[] ∧ ∃ ov', A = planA pb rm (upD done (orderL C row)) ov' C (O ++ orderL C row) := by
  obtain ⟨sa, sc, esv⟩ := Own.form hA.1
  subst esv
  refine exec_plan_do_go (by simp [Try.f36]) ?_
  have H := Hq.one hA
  obtain ⟨SF, hSF⟩ : ∃ SF, SF = (starA (ownA T_api_Inst 2 (.slice sa row.length sc) row.length (prs row)) (planA pb rm done ov C O)).wp := ⟨_, rfl⟩
  rw [← hSF] at H
  have H := H.split
  have H := (H.up 1 rfl).split
  have H := (H.up 1 rfl).split
  have H : Hq m m SF [mapA rm (cv C), cellA pb (.cells (dv done ++ [Value.map (some rm), ov]).toArray T_exec_plan (0, 0)), ownA 40 23 ov O.length (O.flatMap (knc C)), ownA T_api_Inst 2 (.slice sa row.length sc) row.length (prs row)] := H.up 2 rfl
  simp (disch := omega) only [go_sem, undef]
  refine newQ H fun b2 M f0 H => ?_
  simp (disch := omega) only [go_sem, undef]
  refine newQ H fun b3 M f0 H => ?_
  simp (disch := omega) only [go_sem, undef, H.cs]
  refine call_with (sort_Inst_s (enters_of Try.func44 (by kernel_rfl) rfl) exec_do_c1_s (H.at 5 rfl) hnd (by omega)) ?_
  rintro _ M ⟨⟨rfl, l', hp, hasc, ho2⟩, f3⟩
  have hs := asc_sortI hp hasc hnd
  subst hs
  have hlen := hp.length_eq
  have H := repQ5 (M := M) (A' := ownA T_api_Inst 2 (.slice sa row.length sc) (sortI row).length (prs (sortI row))) H ho2 f3 (fun _ h => .inl h) (fun _ h => .inl h)
  obtain ⟨S, hS⟩ : ∃ S, S = sortI row := ⟨_, rfl⟩
  have hSm : ∀ i ∈ sortI row, i ∈ row := fun i hi => hp.mem_iff.1 hi
  rw [← hS] at H hlen hSm
  have hp : PlM M pb rm done ov C := ⟨H.cs.2.2.1, H.at 2 rfl⟩
  rw [hlen] at H
  simp (disch := omega) only [go_sem, undef, H.cs]
  have hrd : RdS 2 pc M (.slice sa row.length sc) S := by have := H.at 5 rfl; rw [← hlen] at this ⊢; exact Own.rds (by decide) pc_len this
  refine callN H (exec_edges_s hp hrd (by omega)) fun v M A' ⟨b, f, e1, e2⟩ f H => ?_
  subst e1
  rw [hlen] at e2
  subst e2
  rw [hlen] at H
  have hxr := rows_grd (H.at 0 rfl) (fun p hp => by
    have : (xsE C S row.length 0 p).length = (eF C S p).length := by rw [xsE, if_pos (by omega)]
    rw [this]
    have := List.length_filter_le (eB C S p) (List.range S.length)
    rw [List.length_range] at this
    unfold eF; omega)
  have hgr := hxr.congr (E' := edgesL C S) (fun v hv => by rw [edgesL_eF, xsE, if_pos (by omega)])
  simp (disch := omega) only [go_sem, undef]
  refine call_with (parts_spec M row.length _ (edgesL C S) (by omega) hgr) ?_
  rintro _ M ⟨w, l, rfl, hout, ⟨_, fs, hok, hfr, hfw⟩, hfr2⟩
  have hfl : fs.length = l.length := by simpa using hok.top.1
  have H := H.add (A := psA w fs l) ⟨hok, hfl⟩ hfr2 (fun x hx => by
    rcases List.mem_append.1 hx with hx | hx
    · exact hfw x hx
    · obtain ⟨f, hf, hx⟩ := List.mem_flatMap.1 hx
      exact hfr f hf x hx)
  have H := dropQ1 H
  have hord : orderL C row = (l.flatMap (sortK (seqC C S))).map (nthI S) := by
    rw [orderL_eq, ← hS, hlen, partsOf_eq hout]
  rw [hord]
  have hne := hout.ne
  have hll := hout.len
  have hall : (l.flatMap (sortK (seqC C S))).length ≤ row.length := by
    have := (hout.ans0.nodup (seqC C S)).length_le_of_subset (l₂ := List.range row.length) fun x hx => List.mem_range.2 ((hout.ans0.mem (seqC C S) x).1 hx)
    rwa [List.length_range] at this
  obtain ⟨wa, wc, ew⟩ := Own.form hok.top
  subst ew
  clear hok hfr hfw hfr2 hgr hxr hrd hp hasc hS hord hout
  simp (disch := omega) only [go_sem, undef]
  refine loopQ_intro (fun n E m' => ∃ p l' ov', p ≤ l.length ∧ n = l.length - p ∧ E = [(2, lpp b2), (3, lpp b3), (20, .slice wa l.length wc), (21, .int .i64 (l.length : Nat)), (22, .int .i64 (p : Nat))] ∧ l'.length = l.length ∧ (∀ j, p ≤ j → l'[j]? = l[j]?) ∧
    Hq m m' SF [psA (.slice wa l.length wc) fs l', cellA b3 (.cells [.slice sa row.length sc].toArray 26 (0, 0)), cellA b2 (.cells [lpp pb].toArray 62 (0, 0)), mapA rm (cv C), cellA pb (.cells (dv (upD done (((l.take p).flatMap (sortK (seqC C S))).map (nthI S))) ++ [Value.map (some rm), ov']).toArray T_exec_plan (0, 0)), ownA 40 23 ov' (O ++ ((l.take p).flatMap (sortK (seqC C S))).map (nthI S)).length ((O ++ ((l.take p).flatMap (sortK (seqC C S))).map (nthI S)).flatMap (knc C)), ownA T_api_Inst 2 (.slice sa row.length sc) row.length (prs S)]) l.length rfl ⟨0, l, ov, by omega, by omega, rfl, rfl, fun _ _ => rfl, by simpa [upD] using H⟩ ?_
  clear H
  rintro n E m' ⟨p, l', ov', hpl, rfl, rfl, hl', hsame, H⟩
  simp (disch := omega) only [go_sem, undef]
  refine condB_dec (fun hlt => ?_) (fun hlt => ?_)
  · have hlt : p < l.length := by omega
    obtain ⟨X, hX⟩ : ∃ X, X = l[p] := ⟨_, rfl⟩
    have hXl : l[p]? = some X := by rw [hX]; exact List.getElem?_eq_getElem hlt
    have hXl' : l'[p]? = some X := by rw [hsame p (Nat.le_refl _), hXl]
    obtain ⟨hne, hasc, hxn⟩ := hne X (List.mem_of_getElem? hXl)
    have hXlen : X.length < 40 := by
      have : X.length ≤ row.length := by
        have h1 : X ⊆ List.range row.length := fun x hx => List.mem_range.2 (hxn x hx)
        have h2 := (nodup_lt hasc).length_le_of_subset h1
        rwa [List.length_range] at h2
      omega
    have hps : PartsOK m' (.slice wa l.length wc) fs l' ∧ fs.length = l'.length := H.at 0 rfl
    obtain ⟨bw, cap, tail, e, hbw, _⟩ := Own.row (hl' ▸ hps.1.top : Own m' 55 1 (.slice wa l.length wc) l.length fs) (by omega)
    cases e
    obtain ⟨f, hf⟩ : ∃ f, fs[p]? = some f := ⟨_, List.getElem?_eq_getElem (by omega)⟩
    have hft : (fs ++ tail)[p]? = some f := by rw [List.getElem?_append_left (by omega)]; exact hf
    obtain ⟨fb, fcap, ftail, e, hfb, _⟩ := (hps.1.row p X f hXl' hf).row (List.length_pos_iff.2 hne)
    subst e
    simp (disch := omega) only [go_sem, undef, hbw, hft]
    refine stableQ H hXl' hf hasc hne hXlen (key := seqC C S) (fun b hb => ⟨by kernel_rfl, fun N hN x y hx hy => ?_⟩) fun M fM H => ?_
    · have hps := H.keepT hN (fun b' hb' => by
        simp at hb'; subst hb'
        exact List.mem_append_right _ (List.mem_flatMap.2 ⟨_, List.mem_of_getElem? hf, hb⟩))
      have hcs := CellF.h _ hps
      exact exec_do_c2_s hcs.2.1 hcs.1 ⟨hcs.2.2.1, hps.2.2.1⟩ (by
        have := hps.2.2.2.2.2.1; rw [← hlen] at this ⊢; exact Own.rds (by decide) pc_len this) (by rw [hlen]; exact hxn x hx) (by rw [hlen]; exact hxn y hy)
    obtain ⟨X', hX'⟩ : ∃ X', X' = sortK (seqC C S) X := ⟨_, rfl⟩
    have hX'l : X'.length = X.length := by rw [hX']; exact (sortX_perm _ _).length_eq
    have hX'n : ∀ x ∈ X', x < row.length := fun x hx => hxn x (by rw [hX'] at hx; exact (sortX_perm _ _).mem_iff.1 hx)
    rw [← hX'] at H
    have hP : ((l.take (p + 1)).flatMap (sortK (seqC C S))) = (l.take p).flatMap (sortK (seqC C S)) ++ X' := by
      rw [List.take_add_one, hXl, List.flatMap_append]; simp [hX']
    have hD : ((l.take p).flatMap (sortK (seqC C S))).length + X.length ≤ row.length := by
      have h1 : (l.flatMap (sortK (seqC C S))).length = ((l.take (p + 1)).flatMap (sortK (seqC C S))).length + ((l.drop (p + 1)).flatMap (sortK (seqC C S))).length := by
        rw [← List.length_append, ← List.flatMap_append, List.take_append_drop]
      rw [hP, List.length_append] at h1
      omega
    generalize (l.take p).flatMap (sortK (seqC C S)) = D at *
    have hll' : (l'.set p X').length = l.length := by rw [List.length_set]; exact hl'
    have hkl : (l'.set p X')[p]? = some X' := List.getElem?_set_self (by omega)
    have hsame' : ∀ j, p + 1 ≤ j → (l'.set p X')[j]? = l[j]? := fun j hj => by rw [List.getElem?_set_ne (by omega)]; exact hsame j (by omega)
    generalize l'.set p X' = l2 at *
    rw [← hX'l] at hD
    rw [← hX'l]
    simp (disch := omega) only [go_sem, undef]
    refine loopQ_intro (fun n E m' => ∃ j ov', j ≤ X'.length ∧ n = X'.length - j ∧ E = [(2, lpp b2), (3, lpp b3), (20, .slice (some ⟨bw, 0, none⟩) l.length wc), (21, .int .i64 (l.length : Nat)), (22, .int .i64 (p : Nat)), (29, .slice (some ⟨fb, 0, none⟩) X'.length fcap), (30, .int .i64 (X'.length : Nat)), (31, .int .i64 (j : Nat))] ∧
      Hq m m' SF [cellA pb (.cells (dv (upD done ((D ++ X'.take j).map (nthI S))) ++ [Value.map (some rm), ov']).toArray T_exec_plan (0, 0)), ownA 40 23 ov' (O ++ (D ++ X'.take j).map (nthI S)).length ((O ++ (D ++ X'.take j).map (nthI S)).flatMap (knc C)), psA (.slice (some ⟨bw, 0, none⟩) l.length wc) fs l2, cellA b3 (.cells [.slice sa row.length sc].toArray 26 (0, 0)), cellA b2 (.cells [lpp pb].toArray 62 (0, 0)), mapA rm (cv C), ownA T_api_Inst 2 (.slice sa row.length sc) row.length (prs S)]) X'.length rfl ⟨0, _, by omega, by omega, rfl, by simpa using ((H.up 5 rfl).up 5 rfl)⟩ ?_
    clear H
    rintro n E m' ⟨j, ov', hj, rfl, rfl, H⟩
    simp (disch := omega) only [go_sem, undef]
    refine condB_dec (fun hlj => ?_) (fun hlj => ?_)
    · have hlj : j < X'.length := by omega
      obtain ⟨x, hx⟩ : ∃ x, X'[j]? = some x := ⟨_, List.getElem?_eq_getElem hlj⟩
      have hxn := hX'n x (List.mem_of_getElem? hx)
      have hps : PartsOK m' (.slice (some ⟨bw, 0, none⟩) l.length wc) fs l2 ∧ fs.length = l2.length := H.at 2 rfl
      have how := hps.1.row p X' _ hkl hf
      rw [hX'l] at how
      obtain ⟨fb', fcap', ftail', e, hfb', _⟩ := how.row (by omega)
      cases e
      have hfx : (nats X' ++ ftail')[j]? = some (.int .i64 (x : Nat)) := by
        rw [nats_get hlj, List.getD_eq_getElem?_getD, hx]; rfl
      have hrd : RdS 2 pc m' (.slice sa row.length sc) S := by
        have := H.at 6 rfl; rw [← hlen] at this ⊢; exact Own.rds (by decide) pc_len this
      rw [← hlen] at hrd hxn
      refine RdS.elK hrd hxn (by decide) fun bx o i hi hix hE => ?_
      rw [hlen] at hix
      have hxi : i = nthI S x := by unfold nthI; rw [List.getD_eq_getElem?_getD, hi]; rfl
      have hir := hrow i (hSm i (List.mem_of_getElem? hi))
      obtain ⟨i1, sl⟩ := i
      obtain ⟨r, rfl⟩ := Int.eq_ofNat_of_zero_le hir.1.1
      have hr7 : r < 7 := by have := hir.1.2; simp only at this; omega
      have hsl : 0 ≤ sl ∧ sl ≤ 1000 := hir.2
      simp (disch := omega) only [go_sem, undef, hfb', hfx, H.cs, hix, hE.lda0, pc_take]
      refine newQ H fun b10 M f1 H => ?_
      simp (disch := omega) only [go_sem, undef]
      refine stwQ0 H rfl rfl fun M f2 H => ?_
      have hmp : MapIs pv M rm (cv C) := H.at 6 rfl
      simp (disch := omega) only [go_sem, undef, H.cs, pc_take, dv_app7, dv_app8, rd_lkpC0 hmp, knc_bld, knc_spl]
      refine newQ H fun b11 M f3 H => ?_
      simp (disch := omega) only [go_sem, undef, H.cs, dv_app8]
      have hcc : pc ((r : Int), sl) ++ ((lkC ((r : Int), sl) C).getD Cel.zero).cs = knc C ((r : Int), sl) := rfl
      generalize (lkC ((r : Int), sl) C).getD Cel.zero = cc at *
      have hDl : (O ++ (D ++ X'.take j).map (nthI S)).length ≤ 1000 := by
        simp only [List.length_append, List.length_map, List.length_take]; omega
      obtain ⟨k0, hk0⟩ : ∃ k0, k0 = (O ++ (D ++ X'.take j).map (nthI S)).length := ⟨_, rfl⟩
      rw [← hk0] at hDl H
      refine appQ3 H rfl (news := pc ((r : Int), sl) ++ cc.cs) (ldS_cell (n := 23) H.cs.1 (by rw [knc_ln]; decide)) (knc_ln _ cc) (fun v hv => List.all_eq_true.1 (knc_one _ cc) v hv) rfl (by omega) (by omega) fun ov2 M f4 H => ?_
      refine Own.formK (H.at 3 rfl) fun oa oc e => ?_
      subst e
      simp (disch := omega) only [go_sem, undef, H.cs, dv_app8, dv_set8]
      refine wrQ2 H fun M f5 H => ?_
      have H := dropQ0 H
      obtain ⟨d1, hd1⟩ : ∃ d1, d1 = upD done ((D ++ X'.take j).map (nthI S)) := ⟨_, rfl⟩
      rw [← hd1] at H
      simp (disch := omega) only [go_sem, undef, H.cs, dv_app _ _ _ r hr7, dv_app_set _ _ _ r hr7]
      refine wrQ1 H fun M f6 H => ?_
      have H := dropQ0 H
      simp (disch := omega) only [go_sem, undef]
      have hQ : (D ++ X'.take (j + 1)).map (nthI S) = (D ++ X'.take j).map (nthI S) ++ [((r : Int), sl)] := by
        rw [hxi, List.take_add_one, hx, ← List.append_assoc, List.map_append (l₁ := D ++ X'.take j)]; rfl
      have hU : upD done ((D ++ X'.take j).map (nthI S) ++ [((r : Int), sl)]) = d1.up r (max (d1.g r) sl) := by
        rw [upD_app, ← hd1]; rfl
      have hL : (O ++ ((D ++ X'.take j).map (nthI S) ++ [((r : Int), sl)])).length = k0 + 1 := by
        rw [hk0, ← List.append_assoc]; simp only [List.length_append, List.length_cons, List.length_nil]
      have hF : (O ++ ((D ++ X'.take j).map (nthI S) ++ [((r : Int), sl)])).flatMap (knc C) = (O ++ (D ++ X'.take j).map (nthI S)).flatMap (knc C) ++ (pc ((r : Int), sl) ++ cc.cs) := by
        rw [← List.append_assoc, List.flatMap_append (xs := O ++ (D ++ X'.take j).map (nthI S)), hcc, List.flatMap_cons, List.flatMap_nil, List.append_nil]
      exact handN_intro (X'.length - (j + 1)) (by omega) ⟨j + 1, _, by omega, rfl, rfl, by rw [hQ, hU, hL, hF]; exact H⟩
    · have e : j = X'.length := by omega
      subst e
      rw [List.take_length, ← hP] at H
      simp (disch := omega) only [go_sem, undef]
      exact handN_intro (l.length - (p + 1)) (by omega) ⟨p + 1, l2, _, by omega, rfl, rfl, hll', hsame', (((H.up 5 rfl).up 5 rfl).up 5 rfl).up 5 rfl⟩
  · have e : p = l.length := by omega
    subst e
    rw [List.take_length] at H
    simp (disch := omega) only [go_sem, undef]
    have H := (dropQ0 (dropQ0 (dropQ0 H))).drop 3
    have H := (((H.up 1 rfl).up 2 rfl).up 1 rfl).join
    have H := (H.up 1 rfl).join
    have nw := fun b hb => H.nw _ (List.mem_cons_self ..) b hb
    have e1 : ∀ b, b ∈ SF → b ∈ (starA (ownA T_api_Inst 2 (.slice sa row.length sc) row.length (prs row)) (planA pb rm done ov C O)).wp := fun b hb => hSF ▸ hb
    have F : Fr m m' (starA (ownA T_api_Inst 2 (.slice sa row.length sc) row.length (prs row)) (planA pb rm done ov C O)).wp := by rw [← hSF]; exact H.fr
    refine ⟨_, ⟨rfl, ov', rfl⟩, H.at 0 rfl, F, fun b hb => ?_, fun b hb => ((nw b hb).imp id (e1 b)).symm⟩
    rcases List.mem_append.1 hb with hb' | hb'
    · exact .inl (List.mem_append_right _ (List.mem_append_left _ hb'))
    · have hw : b ∈ (planA pb rm (upD done ((l.flatMap (sortK (seqC C S))).map (nthI S))) ov' C (O ++ (l.flatMap (sortK (seqC C S))).map (nthI S))).wp := by
        simp only [cellA_fp] at hb'
        refine List.mem_append_right _ ?_
        simpa only [cellA_wp] using hb'
      exact ((nw b hw).imp id fun h => As.sub _ b (e1 b h)).symm
end Go.Fw

set_option linter.unusedSimpArgs false
set_option linter.unusedVariables false
namespace Go.Fw
open Go.Proofs
theorem planA_M {m : Mem} {pb rm : Nat} {done : Dp} {ov : Value} {C : LogL} {O : List I2} (h : (planA pb rm done ov C O).p m) : PlM m pb rm done ov C :=
  ⟨(CellF.h (L := [cellA pb (.cells (dv done ++ [Value.map (some rm), ov]).toArray T_exec_plan (0, 0))]) m ⟨h.2.1.1, trivial⟩).1, h.1⟩
theorem PI.bd {C : LogL} {d0 done : Dp} {out : List I2} (h : PI C d0 done out) (hk : ∀ i ∈ keysC C, 0 ≤ i.2 ∧ i.2 ≤ 1000) (hd : ∀ r, r < 7 → 0 ≤ d0.g r ∧ d0.g r ≤ 1000) (r : Nat) (hr : r < 7) : 0 ≤ done.g r ∧ done.g r ≤ 1000 := by
  have h1 := h.ge r hr
  have h2 := hd r hr
  by_cases e : d0.g r < done.g r
  · have hm : ((r : Int), done.g r) ∈ out := (h.mem _).2 ⟨by simp, by simp; omega, by simpa using e, by simp⟩
    have := hk _ (Classical.byContradiction fun hn => h.inC _ hm (lkC_none.2 hn))
    exact ⟨by omega, this.2⟩
  · omega
/-- the rounds' first steps -/
noncomputable def stR (C : LogL) (done : Dp) (out : List I2) (r : Nat) : PS := (List.range r).foldl (stepP C) ⟨done, out, [], false⟩
theorem stR_succ (C : LogL) (done : Dp) (out : List I2) (r : Nat) : stR C done out (r + 1) = stepP C (stR C done out r) r := by
  unfold stR; rw [List.range_succ, List.foldl_append]; rfl
theorem stR_RI {C : LogL} {d0 done : Dp} {out : List I2} (h : PI C d0 done out) : ∀ r, r ≤ 7 → RI C d0 done out r (stR C done out r)
  | 0, _ => ⟨h, by simp [stR], by simp [stR], .nil, by omega⟩
  | r + 1, hr => by rw [stR_succ]; exact (stR_RI h r (by omega)).step (by omega)
theorem addI_le1 (k : I2) (l : List I2) : (addI k l).length ≤ l.length + 1 := by unfold addI; split <;> simp
theorem stepP_mis (C : LogL) (s : PS) (r : Nat) : (stepP C s r).mis.length ≤ s.mis.length + 1 := by
  unfold stepP
  split
  · split
    · exact addI_le1 _ _
    · omega
  · split
    · exact addI_le1 _ _
    · simp
theorem stR_mis (C : LogL) (done : Dp) (out : List I2) : ∀ r, (stR C done out r).mis.length ≤ r
  | 0 => by simp [stR]
  | r + 1 => by rw [stR_succ]; have := stepP_mis C (stR C done out r) r; have := stR_mis C done out r; omega
theorem hangs_pos {C : LogL} {done : Dp} {root k : I2} (h : hangs C done root = .inr k) (hr : lkC root C ≠ none) (h0 : 0 < root.2) (hd : ∀ r, r < 7 → 0 ≤ done.g r) : 0 < k.2 :=
  (hangs_inr (D := fun k => 0 < k.2) h hr (fun i _ _ k hk => by
    have := hang_new hk
    have h7 := hd k.1.toNat (by omega)
    show 0 < k.2
    omega) h0).1
/-- rows of at most 39 -/
abbrev RowsB (C : LogL) (d0 : Dp) : Prop := ∀ (d : Dp) (o : List I2) (r : Nat) (row : List I2), PI C d0 d o → r < 7 → lkC ((r : Int), d.g r + 1) C ≠ none → hangs C d ((r : Int), d.g r + 1) = .inl row → row.length < 40
theorem rowsB_of {C : LogL} {d0 : Dp} (h : C.length < 40) : RowsB C d0 := fun d o r row hP hr h0 hh => by
  obtain ⟨R, _⟩ := hangs_row hr hh h0
  have := row_le R.nd R.inC
  omega
set_option maxHeartbeats 8000000 in
theorem exec_round_s {m : Mem} {pb rm : Nat} {d0 done : Dp} {ov : Value} {C : LogL} {O : List I2} (hA : (planA pb rm done ov C O).p m) (hP : PI C d0 done O) (hC : C.length ≤ 40) (hB : RowsB C d0) (hsm : smallC C) (hk : ∀ i ∈ keysC C, 0 ≤ i.2 ∧ i.2 ≤ 1000) (hd : ∀ r, r < 7 → 0 ≤ d0.g r ∧ d0.g r ≤ 1000) :
    CM Try.prog n_exec_plan_round [lpp pb] m (planA pb rm done ov C O) fun v A => ∃ ov' sb rs, v = .tuple #[.bool (roundP C done O).did, lpp sb] ∧ A = starA (planA pb rm (roundP C done O).done ov' C (roundP C done O).out) (setA sb rs (roundP C done O).mis) := by
  refine exec_plan_round_go (by simp [Try.f33]) ?_
  have H := Hq.one hA
  obtain ⟨SF, hSF⟩ : ∃ SF, SF = (planA pb rm done ov C O).wp := ⟨_, rfl⟩
  rw [← hSF] at H
  simp (disch := omega) only [go_sem, undef]
  refine callN H (inst_New_s (a := none) (c := 0) (l := []) ⟨pc_len, none, 0, rfl, by simp, .inl rfl⟩ (by simp)) fun v M A' ⟨sb, rs, e1, e2⟩ f H => ?_
  subst e1
  subst e2
  simp (disch := omega) only [go_sem, undef]
  refine loopQ_intro (fun n E m' => ∃ r ov', r ≤ 7 ∧ n = 7 - r ∧ E = [(0, lpp pb), (4, .bool (stR C done O r).did), (5, lpp sb), (13, .int .i64 (r : Nat))] ∧
    Hq m m' SF [setA sb rs (stR C done O r).mis, planA pb rm (stR C done O r).done ov' C (stR C done O r).out]) 7 rfl ⟨0, ov, by omega, rfl, rfl, H⟩ ?_
  clear H f
  rintro n E m' ⟨r, ov', hr7, rfl, rfl, H⟩
  simp (disch := omega) only [go_sem, undef]
  refine condB_dec (fun hr => ?_) (fun hr => ?_)
  · have hr : r < 7 := by omega
    have hRI := stR_RI hP r hr7
    have hst := stR_succ C done O r
    have hml := stR_mis C done O r
    generalize stR C done O r = s at *
    have hbd := hRI.pi.bd hk hd
    have hdr := hbd r hr
    have hol := hRI.pi.len
    have hp := planA_M (H.at 1 rfl)
    simp (disch := omega) only [go_sem, undef, hp.box, dv_app _ _ _ r hr]
    refine newQ H fun b7 M f H => ?_
    simp (disch := omega) only [go_sem, undef]
    refine stwQ0 H rfl rfl fun M f H => ?_
    have hp := planA_M (H.at 2 rfl)
    simp (disch := omega) only [go_sem, undef, H.cs, pc_take, hp.box, dv_app7, rd_lkpC hp.map]
    refine newQ H fun b8 M f H => ?_
    have hp := planA_M (H.at 3 rfl)
    simp (disch := omega) only [go_sem, undef, H.cs, pc_take, hp.box, dv_app7, rd_lkpC hp.map]
    refine stwQ0 H rfl rfl fun M f H => ?_
    have H := dropQ0 H
    have hp := planA_M (H.at 2 rfl)
    cases hlk : lkC ((r : Int), s.done.g r + 1) C with
    | none =>
      simp (disch := omega) only [go_sem, undef, Option.isSome_none, H.cs, pc_take]
      refine callQ H (exec_beyond_s hp ((r : Int), s.done.g r + 1)) fun M f H => ?_
      by_cases hb : beyond C ((r : Int), s.done.g r + 1)
      · have hs : stepP C s r = { s with mis := addI ((r : Int), s.done.g r + 1) s.mis } := by unfold stepP; rw [if_pos hlk, if_pos hb]
        simp (disch := omega) only [go_sem, undef, dec_t hb, H.cs, pc_take]
        refine tS1 H (fun h => inst_Add_s h (by omega) ((r : Int), s.done.g r + 1)) fun M f H => ?_
        simp (disch := omega) only [go_sem, undef]
        exact handN_intro (7 - (r + 1)) (by omega) ⟨r + 1, ov', by omega, rfl, by rw [hst, hs] <;> rfl, by rw [hst, hs]; exact dropQ0 H⟩
      · have hs : stepP C s r = s := by unfold stepP; rw [if_pos hlk, if_neg hb]
        simp (disch := omega) only [go_sem, undef, dec_f hb, H.cs, pc_take]
        exact handN_intro (7 - (r + 1)) (by omega) ⟨r + 1, ov', by omega, rfl, by rw [hst, hs] <;> rfl, by rw [hst, hs]; exact dropQ0 H⟩
    | some cl =>
      have hr0 : lkC ((r : Int), s.done.g r + 1) C ≠ none := by rw [hlk]; simp
      simp (disch := omega) only [go_sem, undef, Option.isSome_some, H.cs, pc_take]
      refine callN H (exec_hangs_s hp (by omega) hsm hk hbd ((r : Int), s.done.g r + 1) hr0) fun v M A' hm f H => ?_
      generalize hh : hangs C s.done ((r : Int), s.done.g r + 1) = tgt at hm
      cases tgt with
      | inl row =>
        have hs : stepP C s r = { s with done := upD s.done (orderL C row), out := s.out ++ orderL C row, did := true } := by unfold stepP; rw [if_neg hr0, hh]
        obtain ⟨R, hin⟩ := hangs_row hr hh hr0
        have hrl := row_le R.nd R.inC
        have hrl2 := hB _ _ _ _ hRI.pi hr hr0 hh
        have hrp := List.length_pos_of_mem hin
        obtain ⟨u, e1, e2⟩ := hm
        subst e1
        subst e2
        refine Own.formK (H.at 0 rfl) fun ua uc e => ?_
        subst e
        simp (disch := omega) only [go_sem, undef]
        refine newQ H fun b11 M f H => ?_
        simp (disch := omega) only [go_sem, undef]
        refine stwQ0 H rfl rfl fun M f H => ?_
        simp (disch := omega) only [go_sem, undef, dec_t (show (0 : Int) < (row.length : Int) by omega)]
        have H := (((((H.drop 2).drop 0).up 2 rfl).up 1 rfl)).join
        refine callA0 H (exec_do_s (H.at 0 rfl) R.nd (by omega) (by omega) fun i hi => ⟨R.rp i hi, hk i (Classical.byContradiction fun hn => R.inC i hi (lkC_none.2 hn))⟩) fun v M A' ⟨e1, ov2, e2⟩ f H => ?_
        subst e1
        subst e2
        simp (disch := omega) only [go_sem, undef]
        exact handN_intro (7 - (r + 1)) (by omega) ⟨r + 1, ov2, by omega, rfl, by rw [hst, hs] <;> rfl, by rw [hst, hs]; exact H.up 1 rfl⟩
      | inr k =>
        have hs : stepP C s r = { s with mis := addI k s.mis } := by unfold stepP; rw [if_neg hr0, hh]
        have hkp := hangs_pos hh hr0 (by simp only; omega) (fun r hr => (hbd r hr).1)
        obtain ⟨e1, e2⟩ := hm
        subst e1
        subst e2
        have H := dropQ0 H
        simp (disch := omega) only [go_sem, undef]
        refine newQ H fun b11 M f H => ?_
        simp (disch := omega) only [go_sem, undef]
        refine stwQ0 H rfl rfl fun M f H => ?_
        have hk0 : ¬ k = (0, 0) := by
          intro e; rw [e] at hkp; exact absurd hkp (by decide)
        simp (disch := omega) only [go_sem, undef, H.cs, pc_take, dec_f hk0]
        refine tS2 H (fun h => inst_Add_s h (by omega) k) fun M f H => ?_
        simp (disch := omega) only [go_sem, undef]
        exact handN_intro (7 - (r + 1)) (by omega) ⟨r + 1, ov', by omega, rfl, by rw [hst, hs] <;> rfl, by rw [hst, hs]; exact dropQ0 (dropQ0 H)⟩
  · have e : r = 7 := by omega
    subst e
    have hrp : stR C done O 7 = roundP C done O := rfl
    rw [hrp] at H ⊢
    simp (disch := omega) only [go_sem, undef]
    have H := (H.up 1 rfl).join
    have nw := fun b hb => H.nw _ (List.mem_cons_self ..) b hb
    have e1 : ∀ b, b ∈ SF → b ∈ (planA pb rm done ov C O).wp := fun b hb => hSF ▸ hb
    have F : Fr m m' (planA pb rm done ov C O).wp := by rw [← hSF]; exact H.fr
    refine ⟨_, ⟨ov', sb, rs, rfl, rfl⟩, H.at 0 rfl, F, fun b hb => ?_, fun b hb => ((nw b hb).imp id (e1 b)).symm⟩
    rcases List.mem_append.1 hb with hb' | hb'
    · rcases List.mem_append.1 hb' with hb' | hb'
      · exact .inl (List.mem_append_left _ hb')
      · exact ((nw b (List.mem_append_left _ (List.mem_append_right _ (by simpa only [cellA_fp, cellA_wp] using hb')))).imp id fun h => As.sub _ b (e1 b h)).symm
    · exact ((nw b (List.mem_append_right _ hb')).imp id fun h => As.sub _ b (e1 b h)).symm
end Go.Fw

set_option linter.unusedSimpArgs false
set_option linter.unusedVariables false
namespace Go.Fw
open Go.Proofs
set_option maxHeartbeats 8000000 in
theorem exec_Plan_key {m0 M : Mem} {pb rm : Nat} {d0 : Dp} {C : LogL} (hC : C.length ≤ 40) (hB : RowsB C d0) (hsm : smallC C) (hk : ∀ i ∈ keysC C, 0 ≤ i.2 ∧ i.2 ≤ 1000) (hd : ∀ r, r < 7 → 0 ≤ d0.g r ∧ d0.g r ≤ 1000) {ov : Value}
    (H : Hq m0 M [] [planA pb rm d0 ov C []]) {ret : Value → Mem → Prop} (hret : ∀ v M', (∃ a b, v = .tuple #[a, b] ∧ Hq m0 M' [] [ownA 40 23 a (planL C d0).1.length ((planL C d0).1.flatMap (knc C)), ownA T_api_Inst 2 b (planL C d0).2.length (prs (planL C d0).2)]) → ret v M') :
    wpN Try.prog (.block 2 (.loop [6] exec_Plan_l1)) (retP exec_Plan_F.rvs ret) [(6, lpp pb)] M := by
  simp (disch := omega) only [go_sem, undef]
  refine loopQ_intro (fun n E m' => ∃ done out ov', E = [(6, lpp pb)] ∧ PI C d0 done out ∧ C.length < n + out.length ∧ planP C n done out = planL C d0 ∧
    Hq m0 m' [] [planA pb rm done ov' C out]) (C.length + 1) rfl ⟨d0, [], ov, rfl, PI.start C d0, by simp, rfl, H⟩ ?_
  clear H
  rintro n E m' ⟨done, out, ov', rfl, hP, hn, hpl, H⟩
  have hol := hP.len
  obtain ⟨n, rfl⟩ : ∃ n', n = n' + 1 := ⟨n - 1, by omega⟩
  simp only [planP] at hpl
  have hRI := round_ok hP
  simp (disch := omega) only [go_sem, undef]
  refine callA0 H (exec_round_s (H.at 0 rfl) hP hC hB hsm hk hd) fun v M A' ⟨ov2, sb, rs, e1, e2⟩ f H => ?_
  subst e1
  subst e2
  have hml := stR_mis C done out 7
  have hrp : stR C done out 7 = roundP C done out := rfl
  rw [hrp] at hml
  generalize roundP C done out = s at *
  have hlen := hRI.len
  cases hdid : s.did with
  | true =>
    rw [hdid] at hpl hlen
    simp only [if_true] at hpl hlen
    simp (disch := omega) only [go_sem, undef, hdid]
    exact handN_intro n (by omega) ⟨s.done, s.out, ov2, rfl, hRI.pi, by omega, hpl, dropQ1 H.split⟩
  | false =>
    rw [hdid] at hpl
    simp only [Bool.false_eq_true, if_false] at hpl
    have H := H.split
    have hp := planA_M (H.at 0 rfl)
    simp (disch := omega) only [go_sem, undef, hdid, hp.box, dv_app8]
    refine callN H (inst_List_s (H.at 1 rfl) (by omega)) fun v M A' e f H => ?_
    subst e
    have hp := planA_M (H.at 1 rfl)
    simp (disch := omega) only [go_sem, undef, hp.box, dv_app8]
    have H := ((((H.drop 2).up 1 rfl).split.drop 0).split.drop 0)
    refine hret _ _ ⟨ov2, v, rfl, ?_⟩
    rw [← hpl]
    exact H
end Go.Fw

set_option linter.unusedSimpArgs false
set_option linter.unusedVariables false
namespace Go.Fw
open Go.Proofs
theorem plan_bld (d : Dp) (x : Option Nat) : ((spl 0 (dv d)
            [Value.int .i64 0, Value.int .i64 0, Value.int .i64 0, Value.int .i64 0,
              Value.int .i64 0, Value.int .i64 0, Value.int .i64 0, Value.map none,
              Value.slice none 0 0]).bind
        fun cs => lay cs [(7, 1)] [Value.map x]) = some (dv d ++ [Value.map x, .slice none 0 0]) := rfl
/-- a map of the walk's own -/
def omapA (r : Nat) (l : List (I2 × Value)) : As where
  fp := [r]
  wp := [r]
  sub _ h := h
  p m := MapIs pv m r l
  st := (mapA r l).st
  th := (mapA r l).th
set_option maxHeartbeats 8000000 in
theorem exec_Plan_s {m : Mem} {d0 : Dp} {R : List (I2 × Cel)} {sv : Value} (hR : RdS 23 knE m sv R) (hl : R.length ≤ 40) (hC : (plC R).length ≤ 40) (hB : RowsB (plC R) d0) (hsm : smallC (plC R)) (hk : ∀ i ∈ keysC (plC R), 0 ≤ i.2 ∧ i.2 ≤ 1000) (hd : ∀ r, r < 7 → 0 ≤ d0.g r ∧ d0.g r ≤ 1000) :
    MC Try.prog n_exec_Plan [d0.v, sv] m fun v M => ∃ a b, v = .tuple #[a, b] ∧ Hq m M [] [ownA 40 23 a (planL (plC R) d0).1.length ((planL (plC R) d0).1.flatMap (knc (plC R))), ownA T_api_Inst 2 b (planL (plC R) d0).2.length (prs (planL (plC R) d0).2)] := by
  obtain ⟨sa, sc, esv⟩ := hR.form
  subst esv
  refine exec_Plan_go (by simp [Try.f33]) ?_
  have H := Hq.refl m []
  simp (disch := omega) only [go_sem, undef]
  refine newQ H fun b2 M f H => ?_
  simp (disch := omega) only [go_sem, undef, H.cs, dv_all]
  refine newQ H fun rm M f H => ?_
  have hrm : MapIs pv M rm (cv []) := ⟨#[], 0, H.cs.1, by simp [cv], by simp [cv, keysOf], by simp, by simp⟩
  have H := H.rep0 (A' := omapA rm (cv [])) hrm (Fr.refl _ _) (fun b hb => .inl (by simpa [omapA] using hb)) (fun b hb => .inl (by simpa [omapA] using hb))
  have H := dropQ1 H
  simp (disch := omega) only [go_sem, undef, plan_bld]
  refine newQ H fun pb M f H => ?_
  simp (disch := omega) only [go_sem, undef]
  refine loopQ_intro (fun n E m' => ∃ j, j ≤ R.length ∧ n = R.length - j ∧ E = [(6, lpp pb), (17, .slice sa R.length sc), (18, .int .i64 (R.length : Nat)), (19, .int .i64 (j : Nat))] ∧
    Hq m m' [] [cellA pb (.cells (dv d0 ++ [Value.map (some rm), .slice none 0 0]).toArray T_exec_plan (0, 0)), omapA rm (cv (plC (R.take j)))]) R.length rfl ⟨0, by omega, rfl, rfl, by simpa [plC] using H⟩ ?_
  clear H f hrm
  rintro n E m' ⟨j, hj, rfl, rfl, H⟩
  simp (disch := omega) only [go_sem, undef]
  refine condB_dec (fun hlt => ?_) (fun hlt => ?_)
  · have hlt : j < R.length := by omega
    refine RdS.elK (hR.frame H.fr) hlt (by decide) fun bx o p hp hix hE => ?_
    have hsc := plC_succ hp
    generalize plC (R.take j) = C at *
    simp (disch := omega) only [go_sem, undef, hix, hE.lda0]
    obtain ⟨k, c⟩ := p
    refine newQ H fun b8 M f H => ?_
    simp (disch := omega) only [go_sem, undef, knE_take, knE_tlen]
    refine stwQ0 H rfl rfl fun M f H => ?_
    have hmp : MapIs pv M rm (cv C) := H.at 2 rfl
    simp (disch := omega) only [go_sem, undef, H.cs, dv_app7, pc_takeA, rd_lkpC hmp]
    refine newQ H fun b10 M f H => ?_
    have hmp : MapIs pv M rm (cv C) := H.at 3 rfl
    simp (disch := omega) only [go_sem, undef, H.cs, dv_app7, pc_takeA, rd_lkpC hmp]
    refine stwQ0 H rfl rfl fun M f H => ?_
    have H := dropQ0 H
    cases hlk : lkC k C with
    | some cl =>
      have hs : plS C (k, c) = C := by unfold plS; rw [if_pos (.inl (by rw [hlk]; simp))]
      simp (disch := omega) only [go_sem, undef, Option.isSome_some]
      exact handN_intro (R.length - (j + 1)) (by omega) ⟨j + 1, by omega, rfl, rfl, by rw [hsc, hs]; exact dropQ0 H⟩
    | none =>
      by_cases h3 : c.st = 3
      · have hs : plS C (k, c) = C ++ [(k, c)] := by unfold plS; rw [if_neg (by simp [hlk, h3])]
        simp (disch := omega) only [go_sem, undef, Option.isSome_none, H.cs, knE_2, dec_t h3, dv_app7, pc_takeA, knE_d21]
        have hmp : MapIs pv M rm (cv C) := H.at 2 rfl
        refine mup_own pv_enc hmp (fun N hmp2 f2 hnone => ?_)
        have hup : updM k c.v (cv C) = cv (C ++ [(k, c)]) := by
          unfold updM
          rw [if_neg (by rw [keys_cv]; exact lkC_none.1 hlk)]
          simp [cv]
        rw [hup] at hmp2
        have H := repQ2 (M := N) (A' := omapA rm (cv (C ++ [(k, c)]))) H hmp2 f2 (fun _ h => .inl h) (fun _ h => .inl h)
        simp (disch := omega) only [go_sem, undef]
        exact handN_intro (R.length - (j + 1)) (by omega) ⟨j + 1, by omega, rfl, rfl, by rw [hsc, hs]; exact dropQ0 H⟩
      · have hs : plS C (k, c) = C := by unfold plS; rw [if_pos (.inr h3)]
        simp (disch := omega) only [go_sem, undef, Option.isSome_none, H.cs, knE_2, dec_f h3]
        exact handN_intro (R.length - (j + 1)) (by omega) ⟨j + 1, by omega, rfl, rfl, by rw [hsc, hs]; exact dropQ0 H⟩
  · have e : j = R.length := by omega
    subst e
    rw [List.take_length] at H
    have hmp : MapIs pv m' rm (cv (plC R)) := H.at 1 rfl
    have H := (H.up 1 rfl).rep0 (A' := mapA rm (cv (plC R))) hmp (Fr.refl _ _) (fun _ h => .inl h) (fun _ h => by cases h)
    have H := ((((H.nilRow 40 23).up 2 rfl).join).up 1 rfl).join
    simp (disch := omega) only [go_sem, undef]
    exact exec_Plan_key hC hB hsm hk hd H (fun v M h => h)
end Go.Fw

set_option linter.unusedSimpArgs false
set_option linter.unusedVariables false
namespace Go.Fw
open Go.Proofs
/-! the law's own functions -/
set_option maxHeartbeats 4000000 in
theorem law_ids_s {m : Mem} {R : List (I2 × Cel)} {sv : Value} (hR : RdS 23 knE m sv R) (hl : R.length ≤ 1000) :
    CN Try.prog n_law20_ids [sv] m fun v A => A = ownA T_api_Inst 2 v (R.map Prod.fst).length (prs (R.map Prod.fst)) := by
  obtain ⟨sa, sc, esv⟩ := hR.form
  subst esv
  refine law20_ids_go (by simp [Try.f33]) ?_
  have H := (Hq.refl m []).nilRow T_api_Inst 2
  simp (disch := omega) only [go_sem, undef]
  refine loopQ_intro (fun n E m' => ∃ j u, j ≤ R.length ∧ n = R.length - j ∧ E = [(0, .slice sa R.length sc), (3, u), (4, .int .i64 (j : Nat))] ∧
    Hq m m' [] [ownA T_api_Inst 2 u j (prs ((R.take j).map Prod.fst))]) R.length rfl ⟨0, .slice none 0 0, by omega, rfl, rfl, by simpa [prs] using H⟩ ?_
  clear H
  rintro n E m' ⟨j, u, hj, rfl, rfl, H⟩
  simp (disch := omega) only [go_sem, undef]
  refine condB_dec (fun hlt => ?_) (fun hlt => ?_)
  · have hlt : j < R.length := by omega
    refine RdS.elK (hR.frame H.fr) hlt (by decide) fun bx o p hp hix hE => ?_
    obtain ⟨k, c⟩ := p
    have hE2 : El 2 pc m' bx o k := ⟨pc_len k, fun i v hv => hE.cell i v (by
      have hi : i < 2 := by have := (List.getElem?_eq_some_iff.1 hv).1; rwa [pc_len] at this
      rw [show knE (k, c) = pc k ++ c.cs from rfl, List.getElem?_append_left (by rw [pc_len]; exact hi)]; exact hv)⟩
    simp (disch := omega) only [go_sem, undef, hix, hE2.lda0, pc_take]
    refine newQ H fun b11 M f H => ?_
    simp (disch := omega) only [go_sem, undef]
    refine appQ1 H rfl (news := pc k) (ldS_cell H.cs.1 (by simp [pc_len])) rfl (fun v hv => List.all_eq_true.1 (pc_one _) v hv) rfl (by omega) (by omega) fun u2 M f H => ?_
    simp (disch := omega) only [go_sem, undef]
    have H := dropQ0 H
    refine handN_intro (R.length - (j + 1)) (by omega) ⟨j + 1, u2, by omega, rfl, rfl, ?_⟩
    rw [List.take_add_one, hp, List.map_append, prs_app]
    exact H
  · have e : j = R.length := by omega
    subst e
    rw [List.take_length] at H
    simp (disch := omega) only [go_sem, undef]
    refine ⟨_, rfl, ?_, H.fr, fun b hb => (H.nw _ (List.mem_cons_self ..) b hb).resolve_right (by simp)⟩
    rw [List.length_map]; exact H.at 0 rfl
set_option maxHeartbeats 4000000 in
theorem law_place_s {m : Mem} {R : List I2} {sv : Value} (hR : RdS 2 pc m sv R) (hl : R.length ≤ 1000) (k : I2) :
    MC Try.prog n_law20_place [sv, pv k] m fun v M => v = .int .i64 (placeL k R 0) ∧ Fr m M [] := by
  obtain ⟨sa, sc, esv⟩ := hR.form
  subst esv
  refine law20_place_go (by simp [Try.f33]) ?_
  have H := Hq.refl m []
  simp (disch := omega) only [go_sem, undef]
  refine newQ H fun b3 M f H => ?_
  simp (disch := omega) only [go_sem, undef]
  refine loopQ_intro (fun n E m' => ∃ j, j ≤ R.length ∧ n = R.length - j ∧ E = [(0, .slice sa R.length sc), (3, lpp b3), (5, .int .i64 (j : Nat))] ∧ placeL k (R.drop j) j = placeL k R 0 ∧
    Hq m m' [] [cellA b3 (.cells (pc k).toArray T_api_Inst (0, 0))]) R.length rfl ⟨0, by omega, rfl, rfl, rfl, H⟩ ?_
  clear H f
  rintro n E m' ⟨j, hj, rfl, rfl, hpl, H⟩
  simp (disch := omega) only [go_sem, undef]
  refine condB_dec (fun hlt => ?_) (fun hlt => ?_)
  · have hlt : j < R.length := by omega
    refine RdS.elK (hR.frame H.fr) hlt (by decide) fun bx o p hp hix hE => ?_
    have hdr : R.drop j = p :: R.drop (j + 1) := by
      rw [List.drop_eq_getElem_cons hlt]
      have := (List.getElem?_eq_some_iff.1 hp).2
      rw [this]
    rw [hdr] at hpl
    simp only [placeL] at hpl
    by_cases e : p = k
    · rw [if_pos e] at hpl
      simp (disch := omega) only [go_sem, undef, hix, hE.lda0, pc_take, H.cs, dec_t e]
      exact ⟨by rw [← hpl], H.fr⟩
    · rw [if_neg e] at hpl
      simp (disch := omega) only [go_sem, undef, hix, hE.lda0, pc_take, H.cs, dec_f e]
      exact handN_intro (R.length - (j + 1)) (by omega) ⟨j + 1, by omega, rfl, rfl, by rw [← hpl]; simp, H⟩
  · have e : j = R.length := by omega
    subst e
    rw [List.drop_length] at hpl
    simp (disch := omega) only [go_sem, undef]
    exact ⟨by rw [← hpl]; rfl, H.fr⟩
set_option maxHeartbeats 4000000 in
theorem law_row_s {m : Mem} {R : List (I2 × Cel)} {sv : Value} (hR : RdS 23 knE m sv R) (hl : R.length ≤ 1000) :
    CN Try.prog n_law20_row [sv] m fun v A => A = ownA 52 23 v R.length (R.flatMap knE) := by
  obtain ⟨sa, sc, esv⟩ := hR.form
  subst esv
  refine law20_row_go (by simp [Try.f33]) ?_
  have H := (Hq.refl m []).nilRow 52 23
  simp (disch := omega) only [go_sem, undef]
  refine loopQ_intro (fun n E m' => ∃ j u, j ≤ R.length ∧ n = R.length - j ∧ E = [(0, .slice sa R.length sc), (3, u), (4, .int .i64 (j : Nat))] ∧
    Hq m m' [] [ownA 52 23 u j ((R.take j).flatMap knE)]) R.length rfl ⟨0, .slice none 0 0, by omega, rfl, rfl, by simpa using H⟩ ?_
  clear H
  rintro n E m' ⟨j, u, hj, rfl, rfl, H⟩
  simp (disch := omega) only [go_sem, undef]
  refine condB_dec (fun hlt => ?_) (fun hlt => ?_)
  · have hlt : j < R.length := by omega
    refine RdS.elK (hR.frame H.fr) hlt (by decide) fun bx o p hp hix hE => ?_
    obtain ⟨k, c⟩ := p
    have hE2 : El 2 pc m' bx o k := ⟨pc_len k, fun i v hv => hE.cell i v (by
      have hi : i < 2 := by have := (List.getElem?_eq_some_iff.1 hv).1; rwa [pc_len] at this
      rw [show knE (k, c) = pc k ++ c.cs from rfl, List.getElem?_append_left (by rw [pc_len]; exact hi)]; exact hv)⟩
    have hE3 : El 21 Cel.cs m' bx (o + 2) c := ⟨Cel.len c, fun i v hv => by
      rw [show o + 2 + i = o + (2 + i) by omega]
      refine hE.cell (2 + i) v ?_
      rw [show knE (k, c) = pc k ++ c.cs from rfl, List.getElem?_append_right (by rw [pc_len]; omega), pc_len, show 2 + i - 2 = i by omega]; exact hv⟩
    simp (disch := omega) only [go_sem, undef, hix, hE2.lda0, hE3.lda0, pc_take, knc_bld, knc_spl]
    refine newQ H fun b11 M f H => ?_
    simp (disch := omega) only [go_sem, undef, hix, hE2.lda0, hE3.lda0]
    refine appQ1 H rfl (news := pc k ++ c.cs) (ldS_cell (n := 23) H.cs.1 (by rw [knc_ln]; decide)) (knc_ln _ _) (fun v hv => List.all_eq_true.1 (knc_one _ _) v hv) rfl (by omega) (by omega) fun u2 M f H => ?_
    simp (disch := omega) only [go_sem, undef]
    have H := dropQ0 H
    refine handN_intro (R.length - (j + 1)) (by omega) ⟨j + 1, u2, by omega, rfl, rfl, ?_⟩
    rw [List.take_add_one, hp, List.flatMap_append]
    simpa [knE] using H
  · have e : j = R.length := by omega
    subst e
    rw [List.take_length] at H
    simp (disch := omega) only [go_sem, undef]
    exact ⟨_, rfl, H.at 0 rfl, H.fr, fun b hb => (H.nw _ (List.mem_cons_self ..) b hb).resolve_right (by simp)⟩
end Go.Fw

set_option linter.unusedSimpArgs false
set_option linter.unusedVariables false
namespace Go.Fw
open Go.Proofs
set_option maxHeartbeats 4000000 in
theorem same_Inst_s {m : Mem} {A B : List I2} {av bv : Value} (hA : RdS 2 pc m av A) (hB : RdS 2 pc m bv B) (hl : A.length ≤ 1000) :
    MC Try.prog n_book_Same_api_Inst [av, bv] m fun v M => v = .bool (decide (A = B)) ∧ Fr m M [] := by
  obtain ⟨sa, sc, esv⟩ := hA.form
  subst esv
  obtain ⟨ta, tc, esv⟩ := hB.form
  subst esv
  obtain ⟨N, hN⟩ : ∃ N, N = B.length := ⟨_, rfl⟩
  refine book_Same_api_Inst_go (by simp [Try.f33]) ?_
  by_cases hne : A.length = B.length
  · have hB' := hB
    rw [← hne] at hB' ⊢
    simp (disch := omega) only [go_sem, undef, dec_t (show (A.length : Int) = (A.length : Int) from rfl)]
    refine loopQ_intro (fun n E m' => ∃ j, j ≤ A.length ∧ n = A.length - j ∧ E = [(0, .slice sa A.length sc), (1, .slice ta A.length tc), (5, .int .i64 (j : Nat))] ∧ A.take j = B.take j ∧ m' = m) A.length rfl ⟨0, by omega, rfl, rfl, rfl, rfl⟩ ?_
    rintro n E m' ⟨j, hj, rfl, rfl, hpre, rfl⟩
    simp (disch := omega) only [go_sem, undef]
    refine condB_dec (fun hlt => ?_) (fun hlt => ?_)
    · have hlt : j < A.length := by omega
      refine RdS.elK hA hlt (by decide) fun bx o x hx hix hE => ?_
      refine RdS.elK hB (i := j) (by omega) (by decide) fun by_ o' y hy hiy hE' => ?_
      rw [← hne] at hiy
      by_cases e : x = y
      · simp (disch := omega) only [go_sem, undef, hix, hE.lda0, hiy, hE'.lda0, pc_take, dec_t e]
        exact handN_intro (A.length - (j + 1)) (by omega) ⟨j + 1, by omega, rfl, rfl, by rw [List.take_add_one, List.take_add_one, hpre, hx, hy, e], rfl⟩
      · simp (disch := omega) only [go_sem, undef, hix, hE.lda0, hiy, hE'.lda0, pc_take, dec_f e]
        refine ⟨?_, Fr.refl _ _⟩
        have : ¬ A = B := fun h => e (by rw [h, hy] at hx; exact (Option.some.inj hx).symm)
        simp [this]
    · have e : j = A.length := by omega
      subst e
      simp (disch := omega) only [go_sem, undef]
      refine ⟨?_, Fr.refl _ _⟩
      have : A = B := by rw [List.take_length, hne, List.take_length] at hpre; exact hpre
      simp [this]
  · simp (disch := omega) only [go_sem, undef, dec_f (show ¬ (A.length : Int) = (B.length : Int) by omega)]
    refine ⟨?_, Fr.refl _ _⟩
    have : ¬ A = B := fun h => hne (by rw [h])
    simp [this]
end Go.Fw

set_option linter.unusedSimpArgs false
set_option linter.unusedVariables false
namespace Go.Fw
open Go.Proofs
set_option maxHeartbeats 4000000 in
theorem same_Known_s {m : Mem} {A B : List (I2 × Cel)} {av bv : Value} (hA : RdS 23 knE m av A) (hB : RdS 23 knE m bv B) (hl : A.length ≤ 1000) :
    MC Try.prog n_book_Same_exec_Known [av, bv] m fun v M => v = .bool (decide (A = B)) ∧ Fr m M [] := by
  obtain ⟨sa, sc, esv⟩ := hA.form
  subst esv
  obtain ⟨ta, tc, esv⟩ := hB.form
  subst esv
  obtain ⟨N, hN⟩ : ∃ N, N = B.length := ⟨_, rfl⟩
  refine book_Same_exec_Known_go (by simp [Try.f33]) ?_
  by_cases hne : A.length = B.length
  · have hB' := hB
    rw [← hne] at hB' ⊢
    simp (disch := omega) only [go_sem, undef, dec_t (show (A.length : Int) = (A.length : Int) from rfl)]
    refine loopQ_intro (fun n E m' => ∃ j, j ≤ A.length ∧ n = A.length - j ∧ E = [(0, .slice sa A.length sc), (1, .slice ta A.length tc), (5, .int .i64 (j : Nat))] ∧ A.take j = B.take j ∧ m' = m) A.length rfl ⟨0, by omega, rfl, rfl, rfl, rfl⟩ ?_
    rintro n E m' ⟨j, hj, rfl, rfl, hpre, rfl⟩
    simp (disch := omega) only [go_sem, undef]
    refine condB_dec (fun hlt => ?_) (fun hlt => ?_)
    · have hlt : j < A.length := by omega
      refine RdS.elK hA hlt (by decide) fun bx o x hx hix hE => ?_
      refine RdS.elK hB (i := j) (by omega) (by decide) fun by_ o' y hy hiy hE' => ?_
      rw [← hne] at hiy
      by_cases e : x = y
      · simp (disch := omega) only [go_sem, undef, hix, hE.lda0, hiy, hE'.lda0, knE_take23, knE_eq x y, dec_t e]
        exact handN_intro (A.length - (j + 1)) (by omega) ⟨j + 1, by omega, rfl, rfl, by rw [List.take_add_one, List.take_add_one, hpre, hx, hy, e], rfl⟩
      · simp (disch := omega) only [go_sem, undef, hix, hE.lda0, hiy, hE'.lda0, knE_take23, knE_eq x y, dec_f e]
        refine ⟨?_, Fr.refl _ _⟩
        have : ¬ A = B := fun h => e (by rw [h, hy] at hx; exact (Option.some.inj hx).symm)
        simp [this]
    · have e : j = A.length := by omega
      subst e
      simp (disch := omega) only [go_sem, undef]
      refine ⟨?_, Fr.refl _ _⟩
      have : A = B := by rw [List.take_length, hne, List.take_length] at hpre; exact hpre
      simp [this]
  · simp (disch := omega) only [go_sem, undef, dec_f (show ¬ (A.length : Int) = (B.length : Int) by omega)]
    refine ⟨?_, Fr.refl _ _⟩
    have : ¬ A = B := fun h => hne (by rw [h])
    simp [this]
end Go.Fw

set_option linter.unusedSimpArgs false
set_option linter.unusedVariables false
namespace Go.Fw
open Go.Proofs
/-- the deps so far -/
def fewJ (d : Dp) (j : Nat) : Dp := fun r => if r.val < j then (if r.val > 3 then 0 else wi (d r) 0 9) else d r
theorem fewJ_7 (d : Dp) : fewJ d 7 = fewD d := funext fun r => by simp only [fewJ, fewD, r.isLt, if_true]
theorem fewJ_0 (d : Dp) : fewJ d 0 = d := funext fun r => by simp [fewJ]
theorem fewJ_g (d : Dp) {j : Nat} (h : j < 7) : (fewJ d j).g j = d.g j := by simp [Dp.g_lt _ h, fewJ]
theorem fewJ_up (d : Dp) {j : Nat} (h : j < 7) : ((fewJ d j).up j (wi (d.g j) 0 9)).up j (if j > 3 then 0 else wi (d.g j) 0 9) = fewJ d (j + 1) := funext fun r => by
  by_cases e : r.val = j
  · subst e; simp [Dp.up, fewJ, d.g_fin r]
  · simp only [Dp.up, fewJ, e, if_false]
    by_cases h2 : r.val < j
    · rw [if_pos h2, if_pos (show r.val < j + 1 by omega)]
    · rw [if_neg h2, if_neg (show ¬ r.val < j + 1 by omega)]
theorem fewJ_up1 (d : Dp) {j : Nat} (h : j < 7) (h3 : j ≤ 3) : (fewJ d j).up j (wi (d.g j) 0 9) = fewJ d (j + 1) := funext fun r => by
  by_cases e : r.val = j
  · subst e; simp only [Dp.up, fewJ, d.g_fin r, if_true]; rw [if_pos (by omega), if_neg (by omega)]
  · simp only [Dp.up, fewJ, e, if_false]
    by_cases h2 : r.val < j
    · rw [if_pos h2, if_pos (show r.val < j + 1 by omega)]
    · rw [if_neg h2, if_neg (show ¬ r.val < j + 1 by omega)]
theorem up_up (d : Dp) (j : Nat) (x y : Int) : (d.up j x).up j y = d.up j y := funext fun r => by
  by_cases e : r.val = j <;> simp [Dp.up, e]
theorem fewJ_up0 (d : Dp) {j : Nat} (h : j < 7) (h3 : 3 < j) : (fewJ d j).up j 0 = fewJ d (j + 1) := funext fun r => by
  by_cases e : r.val = j
  · subst e; simp only [Dp.up, fewJ, if_true]; rw [if_pos (by omega), if_pos (by omega)]
  · simp only [Dp.up, fewJ, e, if_false]
    by_cases h2 : r.val < j
    · rw [if_pos h2, if_pos (show r.val < j + 1 by omega)]
    · rw [if_neg h2, if_neg (show ¬ r.val < j + 1 by omega)]
structure okK (p : Kn) : Prop where
  i : ok2 p.1
  c : okCel p.2
theorem dec_kn : Dec ([.i .i64, .i .i64] ++ celK) knE okK := Dec.seq dec_pair dec_cel (fun a b => (a, b)) (fun _ _ => rfl) fun _ _ h1 h2 => ⟨h1, h2⟩
set_option maxHeartbeats 4000000 in
theorem law_few_s {m : Mem} {R : List Kn} {sv : Value} (hR : RdS 23 knE m sv R) (hok : ∀ p ∈ R, okK p) (hl : R.length ≤ 9223372036854775807) (n : Nat) (hn : n ≤ 1000) :
    CN Try.prog n_law20_few [sv, .int .i64 (n : Nat)] m fun v A => A = ownA 40 23 v (fewL R n).length ((fewL R n).flatMap knE) := by
  obtain ⟨sa, sc, esv⟩ := hR.form
  subst esv
  refine law20_few_go (by simp [Try.f33]) ?_
  have H := (Hq.refl m []).nilRow 40 23
  simp (disch := omega) only [go_sem, undef]
  refine loopQ_intro (fun k E m' => ∃ j u, j ≤ R.length ∧ j ≤ n ∧ k = R.length - j ∧ E = [(0, .slice sa R.length sc), (1, .int .i64 (n : Nat)), (5, u), (6, .int .i64 (j : Nat))] ∧
    Hq m m' [] [ownA 40 23 u j (((R.take j).map fewK).flatMap knE)]) R.length rfl ⟨0, .slice none 0 0, by omega, by omega, by omega, rfl, by simpa using H⟩ ?_
  clear H
  rintro k E m' ⟨j, u, hj, hjn, rfl, rfl, H⟩
  by_cases hlt : j < R.length
  · have h1 : (j : Int) < (R.length : Nat) := by omega
    by_cases hln : j < n
    · have h2 : (j : Int) < (n : Nat) := by omega
      refine RdS.elK (hR.frame H.fr) hlt (by decide) fun bx o p hp hix hE => ?_
      have hpk := hok p (List.mem_of_getElem? hp)
      simp (disch := omega) only [go_sem, undef, dec_t h1, dec_t h2, hix, hE.lda0]
      refine newQ H fun b7 M f H => ?_
      simp (disch := omega) only [go_sem, undef]
      refine stwQ0 H rfl rfl fun M f H => ?_
      simp (disch := omega) only [go_sem, undef, H.cs]
      refine callQ H (book_Within_s p.1.1 0 3 hpk.i.1 (by omega) (by omega) (by omega) _) fun M f H => ?_
      simp (disch := omega) only [go_sem, undef, H.cs]
      refine callQ H (book_Within_s p.1.2 1 8 hpk.i.2 (by omega) (by omega) (by omega) _) fun M f H => ?_
      simp (disch := omega) only [go_sem, undef, H.cs]
      refine wrQ0 H fun M f H => ?_
      simp (disch := omega) only [go_sem, undef, H.cs]
      refine wrQ0 H fun M f H => ?_
      simp (disch := omega) only [go_sem, undef]
      have hq : knU ((wi p.1.1 0 3, wi p.1.2 1 8), p.2) (fewJ p.2.att.deps 0) = ((wi p.1.1 0 3, wi p.1.2 1 8), p.2) := by rw [fewJ_0]
      refine loopQ_intro (fun k E m' => ∃ r, r ≤ 7 ∧ k = 7 - r ∧ E = [(0, .slice sa R.length sc), (1, .int .i64 (n : Nat)), (5, u), (6, .int .i64 (j : Nat)), (7, .pointer (some ⟨b7, 0, none⟩)), (8, .int .i64 (r : Nat))] ∧
        Hq m m' [] [cellA b7 (.cells (knE (knU ((wi p.1.1 0 3, wi p.1.2 1 8), p.2) (fewJ p.2.att.deps r))).toArray 40 (0, 0)), ownA 40 23 u j (((R.take j).map fewK).flatMap knE)]) 7 rfl ⟨0, by omega, rfl, rfl, by rw [hq]; exact H⟩ ?_
      clear H f hE hix
      rintro k E m' ⟨r, hr, rfl, rfl, H⟩
      simp (disch := omega) only [go_sem, undef]
      refine condB_dec (fun hr7 => ?_) (fun hr7 => ?_)
      · have hr7 : r < 7 := by omega
        have hdr : R64 (p.2.att.deps.g r) := by rw [Dp.g_lt _ hr7]; exact hpk.c.att.2 _
        simp (disch := omega) only [go_sem, undef, H.cs, fewJ_g _ hr7]
        refine callQ H (book_Within_s (p.2.att.deps.g r) 0 9 hdr (by omega) (by omega) (by omega) _) fun M f H => ?_
        simp (disch := omega) only [go_sem, undef, H.cs]
        refine wrQ0 H fun M f H => ?_
        by_cases h3 : r ≤ 3
        · simp (disch := omega) only [go_sem, undef, dec_f (show ¬ (3 : Int) < (r : Nat) by omega)]
          exact handN_intro (7 - (r + 1)) (by omega) ⟨r + 1, by omega, rfl, rfl, by rw [← fewJ_up1 _ hr7 h3]; exact H⟩
        · simp (disch := omega) only [go_sem, undef, dec_t (show (3 : Int) < (r : Nat) by omega), H.cs]
          refine wrQ0 H fun M f H => ?_
          simp (disch := omega) only [go_sem, undef]
          exact handN_intro (7 - (r + 1)) (by omega) ⟨r + 1, by omega, rfl, rfl, by rw [← fewJ_up0 _ hr7 (by omega), ← up_up _ _ (wi (p.2.att.deps.g r) 0 9)]; exact H⟩
      · have e : r = 7 := by omega
        subst e
        rw [fewJ_7] at H
        simp (disch := omega) only [go_sem, undef, H.cs]
        refine newQ H fun b11 M f H => ?_
        simp (disch := omega) only [go_sem, undef]
        refine appQ2 H rfl (news := knE (fewK p)) (ldS_cell (n := 23) H.cs.1 (by rw [knE_len]; decide)) (knE_len _) (fun v hv => List.all_eq_true.1 (knE_oneP _) v hv) rfl (by omega) (by omega) fun u2 M f H => ?_
        simp (disch := omega) only [go_sem, undef]
        have H := dropQ0 (dropQ0 H)
        exact handN_intro (R.length - (j + 1)) (by omega) ⟨j + 1, u2, by omega, by omega, rfl, rfl, by
          rw [List.take_add_one, hp, List.map_append, List.flatMap_append]
          simpa using H⟩
    · have h2 : ¬ (j : Int) < (n : Nat) := by omega
      have e : j = n := by omega
      subst e
      simp (disch := omega) only [go_sem, undef, dec_t h1, dec_f h2]
      have el : (fewL R j).length = j := by simp [fewL]; omega
      exact ⟨_, rfl, by rw [el]; exact H.at 0 rfl, H.fr, fun b hb => (H.nw _ (List.mem_cons_self ..) b hb).resolve_right (by simp)⟩
  · have h1 : ¬ (j : Int) < (R.length : Nat) := by omega
    have e : j = R.length := by omega
    subst e
    simp (disch := omega) only [go_sem, undef, dec_f h1]
    have el : (fewL R n) = R.map fewK := by simp [fewL, List.take_of_length_le hjn]
    rw [List.take_length] at H
    exact ⟨_, rfl, by rw [el, List.length_map]; exact H.at 0 rfl, H.fr, fun b hb => (H.nw _ (List.mem_cons_self ..) b hb).resolve_right (by simp)⟩
end Go.Fw

set_option linter.unusedSimpArgs false
set_option linter.unusedVariables false
namespace Go.Fw
open Go.Proofs
section
variable {α : Type} {k : Nat} {enc : α → List Value}
theorem Own.rdsN {m : Mem} {t : TypeId} {v : Value} {l : List α} {n : Nat} (k0 : 0 < k) (hk : ∀ x, (enc x).length = k) (e : l.length = n) (h : Own m t k v n (l.flatMap enc)) : RdS k enc m v l := by subst e; exact Own.rds k0 hk h
theorem RdS.elN {G : Prop} {m : Mem} {a : Option Addr} {c i n : Nat} {l : List α} (h : RdS k enc m (.slice a n c) l) (e : l.length = n) (hi : i < n) (k0 : 0 < k)
    (K : ∀ b o x, l[i]? = some x → IxAt k (.slice a n c) i b o → El k enc m b o x → G) : G := by subst e; exact RdS.elK h hi k0 K
theorem RdS.cap {m : Mem} {a : Option Addr} {c n : Nat} {l : List α} (h : RdS k enc m (.slice a n c) l) (e : l.length = n) : n ≤ c := by
  subst e; obtain ⟨_, _, _, e, hc, _⟩ := h; cases e; exact hc
theorem RdS.takeN {m : Mem} {a : Option Addr} {c n j : Nat} {l : List α} (h : RdS k enc m (.slice a n c) l) (e : l.length = n) (hj : j ≤ n) : RdS k enc m (.slice a j c) (l.take j) := by
  subst e
  obtain ⟨hk, a', c', e, hc, hr⟩ := h
  cases e
  refine ⟨hk, a, c, by rw [List.length_take, Nat.min_eq_left hj], by rw [List.length_take]; omega, ?_⟩
  have hl : (l.take j).flatMap enc = (l.flatMap enc).take (j * k) := by
    have h1 : l.flatMap enc = (l.take j).flatMap enc ++ (l.drop j).flatMap enc := by rw [← List.flatMap_append, List.take_append_drop]
    have h2 := fm_len hk (l.take j)
    rw [List.length_take, Nat.min_eq_left hj] at h2
    rw [h1, ← h2, List.take_left]
  rw [hl]
  rcases hr with hr | ⟨b, o, e, hc⟩
  · exact .inl (by rw [hr]; simp)
  · exact .inr ⟨b, o, e, fun i x hx => hc i x (by rw [List.getElem?_take] at hx; split at hx <;> simp_all)⟩
end
theorem kmap_fm (C : LogL) (l : List I2) : (kmap C l).flatMap knE = l.flatMap (knc C) := by
  unfold kmap; rw [List.flatMap_map]; rfl
noncomputable abbrev planR (a b : Value) (C : LogL) (d0 : Dp) : As := starA (ownA 40 23 a (kmap C (planL C d0).1).length ((kmap C (planL C d0).1).flatMap knE)) (ownA T_api_Inst 2 b (planL C d0).2.length (prs (planL C d0).2))
theorem exec_Plan_g {m : Mem} {d0 : Dp} {R : List Kn} {sv : Value} (hR : RdS 23 knE m sv R) (hl : R.length ≤ 40) (hB : RowsB (plC R) d0) (hlow : ∀ p ∈ R, LowK p) (hd : ∀ r, r < 7 → 0 ≤ d0.g r ∧ d0.g r ≤ 1000) :
    CN Try.prog n_exec_Plan [d0.v, sv] m fun v A => ∃ a b, v = .tuple #[a, b] ∧ A = planR a b (plC R) d0 := by
  have P := plC_PC R
  have Lo := plC_low hlow
  refine (exec_Plan_s hR hl (Nat.le_trans P.len hl) hB Lo.sm Lo.key hd).mono fun v M ⟨a, b, e, H⟩ => ?_
  refine ⟨planR a b (plC R) d0, ⟨a, b, e, rfl⟩, ?_, H.fr, ?_⟩
  · have := H.join.at 0 rfl
    simp only [planR, kmap_fm, kmap_len]; exact this
  · intro x hx
    have := H.join.nw _ (List.mem_cons_self ..) x hx
    exact this.resolve_right (by simp)
theorem exec_Plan_q {m : Mem} {d0 : Dp} {R : List Kn} {sv : Value} (hR : RdS 23 knE m sv R) (hl : R.length < 40) (hlow : ∀ p ∈ R, LowK p) (hd : ∀ r, r < 7 → 0 ≤ d0.g r ∧ d0.g r ≤ 1000) :
    CN Try.prog n_exec_Plan [d0.v, sv] m fun v A => ∃ a b, v = .tuple #[a, b] ∧ A = planR a b (plC R) d0 :=
  exec_Plan_g hR (by omega) (rowsB_of (Nat.lt_of_le_of_lt (plC_PC R).len hl)) hlow hd
/-- a place of a row of one's own is written -/
theorem Own.rowK {G : Prop} {m : Mem} {t : TypeId} {size n : Nat} {v : Value} {xs : List Value} (h : Own m t size v n xs) (hn : 0 < n)
    (K : ∀ b cap tail, v = .slice (some ⟨b, 0, none⟩) n cap → m b = some (.cells (xs ++ tail).toArray t (0, 0)) → (xs ++ tail).length = cap * size → G) : G := by
  rcases h.2 with ⟨rfl, rfl⟩ | ⟨b, cap, tail, rfl, hb, hl⟩
  · omega
  · exact K b cap tail rfl hb hl
theorem Hq.toCell {m0 m : Mem} {S : List Nat} {L : List As} {t : TypeId} {size n b cap : Nat} {xs tail : List Value} (H : Hq m0 m S (ownA t size (.slice (some ⟨b, 0, none⟩) n cap) n xs :: L)) (hb : m b = some (.cells (xs ++ tail).toArray t (0, 0))) :
    Hq m0 m S (cellA b (.cells (xs ++ tail).toArray t (0, 0)) :: L) :=
  H.rep0 (A' := cellA b (.cells (xs ++ tail).toArray t (0, 0))) (by with_unfolding_all exact hb) (Fr.refl _ _) (fun x hx => .inl (by simpa [blkOf] using hx)) (fun x hx => .inl (by simpa [blkOf] using hx))
theorem Hq.ofCell {m0 m : Mem} {S : List Nat} {L : List As} {t : TypeId} {size n b cap : Nat} {xs tail : List Value} (H : Hq m0 m S (cellA b (.cells (xs ++ tail).toArray t (0, 0)) :: L)) (hx : xs.length = n * size) (hl : (xs ++ tail).length = cap * size) :
    Hq m0 m S (ownA t size (.slice (some ⟨b, 0, none⟩) n cap) n xs :: L) :=
  H.rep0 (A' := ownA t size (.slice (some ⟨b, 0, none⟩) n cap) n xs) ⟨hx, .inr ⟨b, cap, tail, rfl, by have h := H.hs.1; with_unfolding_all exact h, hl⟩⟩ (Fr.refl _ _) (fun x hx => .inl (by simpa [blkOf] using hx)) (fun x hx => .inl (by simpa [blkOf] using hx))
theorem kn_set {R : List Kn} {j : Nat} {p : Kn} (h : R[j]? = some p) (tail : List Value) (x : Value) (q : Kn) (c : Nat) (hc : c < 23) (hq : (knE p).set c x = knE q) : ((R.flatMap knE) ++ tail).set (j * 23 + c) x = (R.set j q).flatMap knE ++ tail := by
  induction R generalizing j with
  | nil => simp at h
  | cons y r ih =>
    cases j with
    | zero =>
      simp only [List.getElem?_cons_zero, Option.some.injEq] at h
      subst h
      rw [List.flatMap_cons, List.append_assoc, List.set_cons_zero, List.flatMap_cons, List.append_assoc, List.set_append_left _ _ (by rw [knE_len]; omega)]
      rw [Nat.zero_mul, Nat.zero_add, hq]
    | succ j =>
      rw [List.getElem?_cons_succ] at h
      rw [List.flatMap_cons, List.append_assoc, List.set_cons_succ, List.flatMap_cons, List.append_assoc, List.set_append_right _ _ (by rw [knE_len]; omega), knE_len]
      rw [show (j + 1) * 23 + c - 23 = j * 23 + c by omega, ih h]
theorem both_cut {P : Program} {Lf : Nat → Value} {m : Mem} {a b : ET} {σ : Env} {K : Env → Mem → Prop} {l : Lk (etP P Lf a σ m K)} {l' : Lk (etP P Lf b σ m K)} (J : Env → Mem → Prop) (hK : ∀ E M, J E M → K E M) (h : etP P Lf (.both a b) σ m J) : both (etP P Lf a σ m K) (etP P Lf b σ m K) l l' := etP_mono hK _ _ _ h
theorem IxAt.inj {k i b o b' o' : Nat} {v : Value} (h : IxAt k v i b o) (h' : IxAt k v i b' o') : b' = b ∧ o' = o := by
  have := (h .i64 fun _ => none).symm.trans (h' .i64 fun _ => none)
  simp only [Option.some.injEq, Value.pointer.injEq, Addr.mk.injEq, and_true] at this
  exact ⟨this.1.symm, this.2.symm⟩
end Go.Fw
