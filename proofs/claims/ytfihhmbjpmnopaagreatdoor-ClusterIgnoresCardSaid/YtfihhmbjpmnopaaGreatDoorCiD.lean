import Derived.Test.YtfihhmbjpmnopaaGreatDoorCiC
set_option linter.unusedVariables false
set_option linter.unusedSimpArgs false
/-! The law ClusterIgnores, walked. -/
namespace Go.Fw
open Go.Proofs Go.Ev
variable {m m0 M : Mem} {S : List Nat} {L : List As}
/-- behind the making: the script, and the end -/
theorem script_s {k C : Nat} {a : Option Addr} {c : Nat} {l : List Sp} (hl : RdS 12 Sp.cs m0 (.slice a l.length c) l) (hok : ∀ s ∈ l, SpOk s) (hlen : l.length ≤ 9223372036854775807) (hk : 1 ≤ k ∧ k ≤ 7) (hm : Made m0 k C m) :
    wpN Tryz.prog (.seq (.seq law25_ClusterIgnores_r4 (.block 0 (.loop [1, 5, 7] law25_ClusterIgnores_l0))) (.seq (.seq law25_ClusterIgnores_r26 (.block 3 (.loop [5, 9] law25_ClusterIgnores_l1))) (.seq law25_ClusterIgnores_r32 .ret)))
      (retP law25_ClusterIgnores_F.rvs fun v m' => v = .bool true ∧ Fr m0 m' []) [(1, .slice a l.length c), (5, .pointer (some ⟨C, 0, none⟩)), (25, .bool false)] m := by
  have fin : ∀ M, Made m0 k C M → wpN Tryz.prog tailN (retP [.slot 4] fun v m' => v = .bool true ∧ Fr m0 m' []) [(5, .pointer (some ⟨C, 0, none⟩)), (9, .int .i64 0)] M := fun M h => h.tail fun M' f => ⟨rfl, f⟩
  have fin2 : ∀ (E : Env) M, E.has 5 = true → E.get 5 = .pointer (some ⟨C, 0, none⟩) → Made m0 k C M → wpN Tryz.prog (.seq (.seq law25_ClusterIgnores_r26 (.block 3 (.loop [5, 9] law25_ClusterIgnores_l1))) (.seq law25_ClusterIgnores_r32 .ret)) (retP law25_ClusterIgnores_F.rvs fun v m' => v = .bool true ∧ Fr m0 m' []) E M := by
    intro E M h5 g5 h
    have := fin M h
    rw [wpN_seq, wpN_seq]
    generalize hT : thenN (wpN Tryz.prog (.seq law25_ClusterIgnores_r32 .ret) (retP law25_ClusterIgnores_F.rvs fun v m' => v = .bool true ∧ Fr m0 m' [])) (retP law25_ClusterIgnores_F.rvs fun v m' => v = .bool true ∧ Fr m0 m' []) = T
    have this : wpN Tryz.prog (.block 3 (.loop [5, 9] law25_ClusterIgnores_l1)) T [(5, .pointer (some ⟨C, 0, none⟩)), (9, .int .i64 0)] M := by
      rw [← hT]; exact this
    generalize hB : NC.block 3 (.loop [5, 9] law25_ClusterIgnores_l1) = B at *
    clear hT hB
    simp (disch := omega) only [go_sem, undef, h5, g5]
    exact this
  generalize hT : NC.seq (.seq law25_ClusterIgnores_r26 (.block 3 (.loop [5, 9] law25_ClusterIgnores_l1))) (.seq law25_ClusterIgnores_r32 .ret) = T at *
  clear hT fin
  rw [wpN_seq, wpN_seq]
  generalize hR : retP law25_ClusterIgnores_F.rvs (fun v m' => v = .bool true ∧ Fr m0 m' []) = R at *
  clear hR
  have loop : ∀ M, Made m0 k C M → wpN Tryz.prog (.block 0 (.loop [1, 5, 7] law25_ClusterIgnores_l0)) (thenN (wpN Tryz.prog T R) R) [(1, .slice a l.length c), (5, .pointer (some ⟨C, 0, none⟩)), (7, .int .i64 0)] M := by
    intro M0 hM0
    rw [wpN_block]
    refine ⟨rfl, fun n E M => ∃ i : Nat, i ≤ l.length ∧ n = l.length - i ∧ E = [(1, .slice a l.length c), (5, .pointer (some ⟨C, 0, none⟩)), (7, .int .i64 (i : Nat))] ∧ Made m0 k C M, ⟨_, 0, by omega, rfl, rfl, hM0⟩, ?_⟩
    rintro n E M ⟨i, hi, rfl, rfl, hM⟩
    have out : ∀ E : Env, E.has 5 = true → E.get 5 = .pointer (some ⟨C, 0, none⟩) → thenN (wpN Tryz.prog T R) R .normal E M := fun E h5 g5 => fin2 E M h5 g5 hM
    by_cases hlt : i < l.length
    · by_cases h40 : i < 40
      · have hfr := hM.old
        refine RdS.elK (hl.frame hfr) hlt (by decide) fun bx o s hs hix hEl => ?_
        obtain ⟨N, cap, nf, hC⟩ := hM.clu
        have hr := round_s hC hk s (hok s (List.mem_of_getElem? hs)) (by omega) hix hEl (Q := roundN [1, 5, 7] (fun n E M => ∃ i : Nat, i ≤ l.length ∧ n = l.length - i ∧ E = [(1, .slice a l.length c), (5, .pointer (some ⟨C, 0, none⟩)), (7, .int .i64 (i : Nat))] ∧ Made m0 k C M) (l.length - i) (blockN 0 (thenN (wpN Tryz.prog T R) R)))
          (fun M' f => ⟨rfl, l.length - (i + 1), by omega, i + 1, by omega, rfl, rfl, hM.stay f⟩)
        show wpN Tryz.prog (.seq (.seq law25_ClusterIgnores_r5 (.cond (.slot 33) .skip (.exit 0))) _) _ _ _
        rw [wpN_seq, wpN_seq]
        refine ⟨rfl, ?_⟩
        have d1 := dec_t (show ((i : Nat) : Int) < (l.length : Nat) by omega)
        have d2 := dec_t (show ((i : Nat) : Int) < 40 by omega)
        generalize hQ : thenN (wpN Tryz.prog _ _) _ = Q
        simp (disch := omega) only [go_sem, undef, d1, d2]
        rw [← hQ]
        show wpN _ (.cond _ _ _) _ _ _
        refine ⟨rfl, true, rfl, fun _ => ?_, fun h => by cases h⟩
        exact hr
      · have d1 := dec_t (show ((i : Nat) : Int) < (l.length : Nat) by omega)
        have d2 := dec_f (show ¬ ((i : Nat) : Int) < 40 by omega)
        have hO := out [(1, .slice a l.length c), (5, .pointer (some ⟨C, 0, none⟩)), (7, .int .i64 (i : Nat)), (33, .bool false)] rfl rfl
        show wpN Tryz.prog (.seq (.seq law25_ClusterIgnores_r5 (.cond (.slot 33) .skip (.exit 0))) _) _ _ _
        rw [wpN_seq, wpN_seq]
        refine ⟨rfl, ?_⟩
        generalize hQ : thenN (wpN Tryz.prog _ _) _ = Q
        simp (disch := omega) only [go_sem, undef, d1, d2]
        rw [← hQ]
        show wpN _ (.cond _ _ _) _ _ _
        refine ⟨rfl, false, rfl, ?_⟩
        refine And.intro (fun (h : false = true) => by cases h) (fun _ => ?_)
        exact hO
    · have d1 := dec_f (show ¬ ((i : Nat) : Int) < (l.length : Nat) by omega)
      have hO := out [(1, .slice a l.length c), (5, .pointer (some ⟨C, 0, none⟩)), (7, .int .i64 (i : Nat)), (33, .bool false)] rfl rfl
      show wpN Tryz.prog (.seq (.seq law25_ClusterIgnores_r5 (.cond (.slot 33) .skip (.exit 0))) _) _ _ _
      rw [wpN_seq, wpN_seq]
      refine ⟨rfl, ?_⟩
      generalize hQ : thenN (wpN Tryz.prog _ _) _ = Q
      simp (disch := omega) only [go_sem, undef, d1]
      rw [← hQ]
      show wpN _ (.cond _ _ _) _ _ _
      refine ⟨rfl, false, rfl, ?_⟩
      refine And.intro (fun (h : false = true) => by cases h) (fun _ => ?_)
      exact hO
  have hl0 := loop m hm
  generalize hB : NC.block 0 (.loop [1, 5, 7] law25_ClusterIgnores_l0) = B at *
  clear hB
  generalize hQ : thenN (wpN Tryz.prog T R) R = Q at *
  clear hQ
  simp (disch := omega) only [go_sem, undef]
  exact hl0
end Go.Fw
