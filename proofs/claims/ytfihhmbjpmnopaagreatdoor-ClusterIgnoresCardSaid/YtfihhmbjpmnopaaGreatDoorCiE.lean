import Derived.Test.YtfihhmbjpmnopaaGreatDoorCiD
set_option linter.unusedVariables false
set_option linter.unusedSimpArgs false
/-! The law ClusterIgnores, whole. -/
namespace Go.Fw
open Go.Proofs Go.Ev
variable {m m0 M : Mem} {S : List Nat} {L : List As}
theorem made_from {m M1 M : Mem} {k C : Nat} (f : Fr m M1 []) (h : Made M1 k C M) : Made m k C M := by
  obtain ⟨⟨S, ρ, h1, h2, h3, h4⟩, h5⟩ := h
  refine ⟨⟨S, ρ, h1, h2, h3, fun B hB => ?_⟩, h5⟩
  have e := f B hB (by simp)
  have := h4 B (by rw [e]; exact hB)
  exact ⟨this.1.trans e, this.2⟩
theorem law_s (n : Int) (hn : I64 n) {a : Option Addr} {c : Nat} {l : List Sp} (hl : RdS 12 Sp.cs m (.slice a l.length c) l) (hok : ∀ s ∈ l, SpOk s) (hlen : l.length ≤ 9223372036854775807) :
    MC Tryz.prog n_law25_ClusterIgnores [.int .i64 n, .slice a l.length c] m fun v m' => v = .bool true ∧ Fr m m' [] := by
  refine law25_ClusterIgnores_go (by simp [Tryz.f3]) ?_
  have fin := fun (k C : Nat) (M : Mem) (hk : 1 ≤ k ∧ k ≤ 7) (h : Made m k C M) => script_s hl hok hlen hk h
  unfold law25_ClusterIgnores_c
  generalize hT : (NC.seq (.seq law25_ClusterIgnores_r4 (.block 0 (.loop [1, 5, 7] law25_ClusterIgnores_l0))) (.seq (.seq law25_ClusterIgnores_r26 (.block 3 (.loop [5, 9] law25_ClusterIgnores_l1))) (.seq law25_ClusterIgnores_r32 .ret))) = T at *
  clear hT hl hok hlen
  generalize hR : retP law25_ClusterIgnores_F.rvs (fun v m' => v = .bool true ∧ Fr m m' []) = R at *
  clear hR
  have H := Hq.refl m []
  simp (disch := omega) only [go_sem, undef]
  refine newQ H fun b M f H => ?_
  simp (disch := omega) only [go_sem, undef, H.cs]
  refine callR H (inside_s n 0 2 (by decide) hn (by decide) (by decide)) fun v M hr f H => ?_
  obtain ⟨r, rfl, r1, r2⟩ := hr
  have hr : r = 0 ∨ r = 1 ∨ r = 2 := by omega
  rcases hr with rfl | rfl | rfl
  · simp (disch := omega) only [go_sem, undef, H.cs]
    refine callR H (made3 _) fun v M' hr f H2 => ?_
    obtain ⟨C, rfl, hM⟩ := hr
    have hF := fin 3 C M' (by omega) (made_from H.fr hM)
    simp (disch := omega) only [go_sem, undef, Option.isNone_some]
    exact hF
  · have g1 : ([Value.int .i64 3, .int .i64 5, .int .i64 7] : List Value)[Int.toNat 1]? = some (.int .i64 5) := rfl
    simp (disch := omega) only [go_sem, undef, H.cs, g1]
    refine callR H (made5 _) fun v M' hr f H2 => ?_
    obtain ⟨C, rfl, hM⟩ := hr
    have hF := fin 5 C M' (by omega) (made_from H.fr hM)
    simp (disch := omega) only [go_sem, undef, Option.isNone_some]
    exact hF
  · have g1 : ([Value.int .i64 3, .int .i64 5, .int .i64 7] : List Value)[Int.toNat 2]? = some (.int .i64 7) := rfl
    simp (disch := omega) only [go_sem, undef, H.cs, g1]
    refine callR H (made7 _) fun v M' hr f H2 => ?_
    obtain ⟨C, rfl, hM⟩ := hr
    have hF := fin 7 C M' (by omega) (made_from H.fr hM)
    simp (disch := omega) only [go_sem, undef, Option.isNone_some]
    exact hF
end Go.Fw
