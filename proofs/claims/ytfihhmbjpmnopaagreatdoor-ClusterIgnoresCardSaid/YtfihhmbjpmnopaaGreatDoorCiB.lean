import Derived.Test.YtfihhmbjpmnopaaGreatDoorCiA
set_option linter.unusedVariables false
set_option linter.unusedSimpArgs false
/-! One round of the law: a step that is made so that it does not apply. -/
namespace Go.Fw
open Go.Proofs
variable {m m0 M : Mem} {S : List Nat} {L : List As}
abbrev I64 (n : Int) : Prop := -9223372036854775808 ≤ n ∧ n ≤ 9223372036854775807
theorem inside_s (n lo hi : Int) (h : lo ≤ hi) (hn : I64 n) (h1 : -1000000000000 ≤ lo) (h2 : hi ≤ 1000000000000) : MC Tryz.prog n_book_Within [.int .i64 n, .int .i64 lo, .int .i64 hi] m fun v M => (∃ r, v = .int .i64 r ∧ lo ≤ r ∧ r ≤ hi) ∧ Fr m M [] := by
  refine book_Within_go (by simp [Tryz.f5]) ?_
  have hd : 0 < hi - lo + 1 := by omega
  have e1 := Int.tmod_lt_of_pos n hd
  have e2 : -(hi - lo + 1) < n.tmod (hi - lo + 1) := by
    have := Int.lt_tmod_of_pos n hd
    omega
  have H := Hq.refl m []
  simp (disch := omega) only [go_sem, undef, rd_rem]
  generalize n.tmod (hi - lo + 1) = q at *
  refine condB_dec (fun h3 => ?_) (fun h3 => ?_)
  · simp (disch := omega) only [go_sem, undef]
    exact ⟨⟨_, rfl, by omega, by omega⟩, H.fr⟩
  · simp (disch := omega) only [go_sem, undef]
    exact ⟨⟨_, rfl, by omega, by omega⟩, H.fr⟩
abbrev law25_sw : NC := (.seq law25_ClusterIgnores_r9
  (.cond (.slot 45)
    law25_ClusterIgnores_r10
    (.seq (.seq law25_ClusterIgnores_r11
    (.cond (.slot 52)
      .skip
      (.seq law25_ClusterIgnores_r12
      (.cond (.slot 52)
        .skip
        law25_ClusterIgnores_r13))))
    (.cond (.slot 52)
      law25_ClusterIgnores_r14
      (.seq law25_ClusterIgnores_r15
      (.cond (.slot 63)
        law25_ClusterIgnores_r16
        (.seq law25_ClusterIgnores_r17
        (.cond (.slot 72)
          law25_ClusterIgnores_r18
          (.seq (.seq law25_ClusterIgnores_r19
          (.cond (.slot 79)
            .skip
            (.seq law25_ClusterIgnores_r20
            (.cond (.slot 79)
              .skip
              law25_ClusterIgnores_r21))))
          (.cond (.slot 79)
            law25_ClusterIgnores_r22
            .skip))))))))))
structure SpOk (s : Sp) : Prop where
  kind : I64 s.kind
  n : I64 s.n
  client : I64 s.client
theorem Sp.len (s : Sp) : s.cs.length = 12 := rfl
set_option maxHeartbeats 4000000 in
theorem round_s {k C N cap : Nat} {nf : Nat → Addr} (h : Clu k C N cap nf m) (hk : 1 ≤ k ∧ k ≤ 7) (s : Sp) (ok : SpOk s) {a : Option Addr} {c i len bx o : Nat} (hi : i < 9223372036854775807) (hix : IxAt 12 (.slice a len c) i bx o) (hEl : El 12 Sp.cs m bx o s) {Q : Exit → Env → Mem → Prop}
    (hQ : ∀ M, Fr m M [] → Q .normal [(1, .slice a len c), (5, .pointer (some ⟨C, 0, none⟩)), (7, .int .i64 (i + 1 : Nat))] M) :
    wpN Tryz.prog (.seq (.block 1 (.seq law25_ClusterIgnores_r6 (.seq (.seq law25_ClusterIgnores_r7 (.cond (.slot 42) (.exit 1) .skip)) (.seq (.seq law25_ClusterIgnores_r8 (.block 2 law25_sw)) (.seq law25_ClusterIgnores_r23 (.cond (.slot 89) (.seq law25_ClusterIgnores_r24 .ret) .skip)))))) law25_ClusterIgnores_r25)
      Q [(1, .slice a len c), (5, .pointer (some ⟨C, 0, none⟩)), (7, .int .i64 (i : Nat)), (33, .bool true)] m := by
  have H := Hq.refl m []
  have hkc := ok.kind
  have hnc := ok.n
  have hcc := ok.client
  have i64c : IntKind.i64.wrap ((i : Int) + 1) = ((i + 1 : Nat) : Int) := by rw [wrap_i64 (by omega) (by omega)]; omega
  simp (disch := omega) only [go_sem, undef, hix, hEl.lda0 12 (by decide) (by decide)]
  refine newQ H fun b8 M f H => ?_
  simp (disch := omega) only [go_sem, undef, H.cs]
  refine stwQ0 H rfl rfl fun M f H => ?_
  simp (disch := omega) only [go_sem, undef, H.cs]
  refine callR H (light_s s _) fun v M hr f H => ?_
  obtain ⟨b, rfl⟩ := hr
  cases b with
  | false =>
    simp (disch := omega) only [go_sem, undef, H.cs]
    (try simp (disch := omega) only [go_sem, undef, i64c])
    exact hQ _ H.fr
  | true =>
    simp (disch := omega) only [go_sem, undef, H.cs]
    by_cases e1 : s.kind = 1
    · have d1 := dec_t e1
      simp (disch := omega) only [go_sem, undef, H.cs, d1]
      refine callR H (inside_s s.client 0 9 (by decide) ok.client (by decide) (by decide)) fun v M hr f H => ?_
      obtain ⟨r, rfl, r1, r2⟩ := hr
      simp (disch := omega) only [go_sem, undef, H.cs]
      refine wrQ0 H fun M f H => ?_
      simp (disch := omega) only [go_sem, undef, H.cs]
      refine callQ H (do_no (h.frame H.fr) { s with client := 0 - r } (⟨fun _ => by (first | (exfalso; (try simp only at *); omega) | ((try simp only); omega)), fun _ => by (first | (exfalso; (try simp only at *); omega) | ((try simp only); omega)), fun _ => by (first | (exfalso; (try simp only at *); omega) | ((try simp only); omega)), fun _ => by (first | (exfalso; (try simp only at *); omega) | ((try simp only); omega)), fun _ => by (first | (exfalso; (try simp only at *); omega) | ((try simp only); omega))⟩)) fun M f H => ?_
      (try simp (disch := omega) only [go_sem, undef, i64c])
      exact hQ _ H.fr
    by_cases e5 : s.kind = 5
    · have d5 := dec_t e5
      have d1 := dec_f e1
      simp (disch := omega) only [go_sem, undef, H.cs, d1, d5]
      refine callQ H (nodes_s (h.frame H.fr)) fun M f H => ?_
      simp (disch := omega) only [go_sem, undef, H.cs]
      refine callR H (inside_s s.n 0 9 (by decide) ok.n (by decide) (by decide)) fun v M hr f H => ?_
      obtain ⟨r, rfl, r1, r2⟩ := hr
      simp (disch := omega) only [go_sem, undef, H.cs]
      refine wrQ0 H fun M f H => ?_
      simp (disch := omega) only [go_sem, undef, H.cs]
      refine callQ H (do_no (h.frame H.fr) { s with n := k + r } (⟨fun _ => by (first | (exfalso; (try simp only at *); omega) | ((try simp only); omega)), fun _ => by (first | (exfalso; (try simp only at *); omega) | ((try simp only); omega)), fun _ => by (first | (exfalso; (try simp only at *); omega) | ((try simp only); omega)), fun _ => by (first | (exfalso; (try simp only at *); omega) | ((try simp only); omega)), fun _ => by (first | (exfalso; (try simp only at *); omega) | ((try simp only); omega))⟩)) fun M f H => ?_
      (try simp (disch := omega) only [go_sem, undef, i64c])
      exact hQ _ H.fr
    by_cases e7 : s.kind = 7
    · have d7 := dec_t e7
      have d1 := dec_f e1
      have d5 := dec_f e5
      simp (disch := omega) only [go_sem, undef, H.cs, d1, d5, d7]
      refine callQ H (nodes_s (h.frame H.fr)) fun M f H => ?_
      simp (disch := omega) only [go_sem, undef, H.cs]
      refine callR H (inside_s s.n 0 9 (by decide) ok.n (by decide) (by decide)) fun v M hr f H => ?_
      obtain ⟨r, rfl, r1, r2⟩ := hr
      simp (disch := omega) only [go_sem, undef, H.cs]
      refine wrQ0 H fun M f H => ?_
      simp (disch := omega) only [go_sem, undef, H.cs]
      refine callQ H (do_no (h.frame H.fr) { s with n := k + r } (⟨fun _ => by (first | (exfalso; (try simp only at *); omega) | ((try simp only); omega)), fun _ => by (first | (exfalso; (try simp only at *); omega) | ((try simp only); omega)), fun _ => by (first | (exfalso; (try simp only at *); omega) | ((try simp only); omega)), fun _ => by (first | (exfalso; (try simp only at *); omega) | ((try simp only); omega)), fun _ => by (first | (exfalso; (try simp only at *); omega) | ((try simp only); omega))⟩)) fun M f H => ?_
      (try simp (disch := omega) only [go_sem, undef, i64c])
      exact hQ _ H.fr
    by_cases e8 : s.kind = 8
    · have d8 := dec_t e8
      have d1 := dec_f e1
      have d5 := dec_f e5
      have d7 := dec_f e7
      simp (disch := omega) only [go_sem, undef, H.cs, d1, d5, d7, d8]
      refine callQ H (nodes_s (h.frame H.fr)) fun M f H => ?_
      simp (disch := omega) only [go_sem, undef, H.cs]
      refine callR H (inside_s s.n 0 9 (by decide) ok.n (by decide) (by decide)) fun v M hr f H => ?_
      obtain ⟨r, rfl, r1, r2⟩ := hr
      simp (disch := omega) only [go_sem, undef, H.cs]
      refine wrQ0 H fun M f H => ?_
      simp (disch := omega) only [go_sem, undef, H.cs]
      refine callQ H (do_no (h.frame H.fr) { s with n := k + r } (⟨fun _ => by (first | (exfalso; (try simp only at *); omega) | ((try simp only); omega)), fun _ => by (first | (exfalso; (try simp only at *); omega) | ((try simp only); omega)), fun _ => by (first | (exfalso; (try simp only at *); omega) | ((try simp only); omega)), fun _ => by (first | (exfalso; (try simp only at *); omega) | ((try simp only); omega)), fun _ => by (first | (exfalso; (try simp only at *); omega) | ((try simp only); omega))⟩)) fun M f H => ?_
      (try simp (disch := omega) only [go_sem, undef, i64c])
      exact hQ _ H.fr
    by_cases e9 : s.kind = 9
    · have d9 := dec_t e9
      have d1 := dec_f e1
      have d5 := dec_f e5
      have d7 := dec_f e7
      have d8 := dec_f e8
      simp (disch := omega) only [go_sem, undef, H.cs, d1, d5, d7, d8, d9]
      refine callQ H (nodes_s (h.frame H.fr)) fun M f H => ?_
      simp (disch := omega) only [go_sem, undef, H.cs]
      refine callR H (inside_s s.n 0 (k - 1) (by omega) ok.n (by decide) (by omega)) fun v M hr f H => ?_
      obtain ⟨r, rfl, r1, r2⟩ := hr
      simp (disch := omega) only [go_sem, undef, H.cs]
      refine wrQ0 H fun M f H => ?_
      simp (disch := omega) only [go_sem, undef, H.cs]
      refine callQ H (do_no (h.frame H.fr) { s with n := r } (⟨fun _ => by (first | (exfalso; (try simp only at *); omega) | ((try simp only); omega)), fun _ => by (first | (exfalso; (try simp only at *); omega) | ((try simp only); omega)), fun _ => by (first | (exfalso; (try simp only at *); omega) | ((try simp only); omega)), fun _ => by (first | (exfalso; (try simp only at *); omega) | ((try simp only); omega)), fun _ => by (first | (exfalso; (try simp only at *); omega) | ((try simp only); omega))⟩)) fun M f H => ?_
      (try simp (disch := omega) only [go_sem, undef, i64c])
      exact hQ _ H.fr
    by_cases e6 : s.kind = 6
    · have d6 := dec_t e6
      have d1 := dec_f e1
      have d5 := dec_f e5
      have d7 := dec_f e7
      have d8 := dec_f e8
      have d9 := dec_f e9
      simp (disch := omega) only [go_sem, undef, H.cs, d1, d5, d7, d8, d9, d6]
      refine callR H (inside_s s.n 0 9 (by decide) ok.n (by decide) (by decide)) fun v M hr f H => ?_
      obtain ⟨r, rfl, r1, r2⟩ := hr
      simp (disch := omega) only [go_sem, undef, H.cs]
      refine wrQ0 H fun M f H => ?_
      simp (disch := omega) only [go_sem, undef, H.cs]
      refine callQ H (do_no (h.frame H.fr) { s with n := 0 - r } (⟨fun _ => by (first | (exfalso; (try simp only at *); omega) | ((try simp only); omega)), fun _ => by (first | (exfalso; (try simp only at *); omega) | ((try simp only); omega)), fun _ => by (first | (exfalso; (try simp only at *); omega) | ((try simp only); omega)), fun _ => by (first | (exfalso; (try simp only at *); omega) | ((try simp only); omega)), fun _ => by (first | (exfalso; (try simp only at *); omega) | ((try simp only); omega))⟩)) fun M f H => ?_
      (try simp (disch := omega) only [go_sem, undef, i64c])
      exact hQ _ H.fr
    by_cases e2 : s.kind = 2
    · have d2 := dec_t e2
      have d1 := dec_f e1
      have d5 := dec_f e5
      have d7 := dec_f e7
      have d8 := dec_f e8
      have d9 := dec_f e9
      have d6 := dec_f e6
      simp (disch := omega) only [go_sem, undef, H.cs, d1, d5, d7, d8, d9, d6, d2]
      refine callR H (inside_s s.n 0 9 (by decide) ok.n (by decide) (by decide)) fun v M hr f H => ?_
      obtain ⟨r, rfl, r1, r2⟩ := hr
      simp (disch := omega) only [go_sem, undef, H.cs]
      refine wrQ0 H fun M f H => ?_
      simp (disch := omega) only [go_sem, undef, H.cs]
      refine callQ H (do_no (h.frame H.fr) { s with n := r } (⟨fun _ => by (first | (exfalso; (try simp only at *); omega) | ((try simp only); omega)), fun _ => by (first | (exfalso; (try simp only at *); omega) | ((try simp only); omega)), fun _ => by (first | (exfalso; (try simp only at *); omega) | ((try simp only); omega)), fun _ => by (first | (exfalso; (try simp only at *); omega) | ((try simp only); omega)), fun _ => by (first | (exfalso; (try simp only at *); omega) | ((try simp only); omega))⟩)) fun M f H => ?_
      (try simp (disch := omega) only [go_sem, undef, i64c])
      exact hQ _ H.fr
    by_cases e3 : s.kind = 3
    · have d3 := dec_t e3
      have d1 := dec_f e1
      have d5 := dec_f e5
      have d7 := dec_f e7
      have d8 := dec_f e8
      have d9 := dec_f e9
      have d6 := dec_f e6
      have d2 := dec_f e2
      simp (disch := omega) only [go_sem, undef, H.cs, d1, d5, d7, d8, d9, d6, d2, d3]
      refine callR H (inside_s s.n 0 9 (by decide) ok.n (by decide) (by decide)) fun v M hr f H => ?_
      obtain ⟨r, rfl, r1, r2⟩ := hr
      simp (disch := omega) only [go_sem, undef, H.cs]
      refine wrQ0 H fun M f H => ?_
      simp (disch := omega) only [go_sem, undef, H.cs]
      refine callQ H (do_no (h.frame H.fr) { s with n := r } (⟨fun _ => by (first | (exfalso; (try simp only at *); omega) | ((try simp only); omega)), fun _ => by (first | (exfalso; (try simp only at *); omega) | ((try simp only); omega)), fun _ => by (first | (exfalso; (try simp only at *); omega) | ((try simp only); omega)), fun _ => by (first | (exfalso; (try simp only at *); omega) | ((try simp only); omega)), fun _ => by (first | (exfalso; (try simp only at *); omega) | ((try simp only); omega))⟩)) fun M f H => ?_
      (try simp (disch := omega) only [go_sem, undef, i64c])
      exact hQ _ H.fr
    by_cases e4 : s.kind = 4
    · have d4 := dec_t e4
      have d1 := dec_f e1
      have d5 := dec_f e5
      have d7 := dec_f e7
      have d8 := dec_f e8
      have d9 := dec_f e9
      have d6 := dec_f e6
      have d2 := dec_f e2
      have d3 := dec_f e3
      simp (disch := omega) only [go_sem, undef, H.cs, d1, d5, d7, d8, d9, d6, d2, d3, d4]
      refine callR H (inside_s s.n 0 9 (by decide) ok.n (by decide) (by decide)) fun v M hr f H => ?_
      obtain ⟨r, rfl, r1, r2⟩ := hr
      simp (disch := omega) only [go_sem, undef, H.cs]
      refine wrQ0 H fun M f H => ?_
      simp (disch := omega) only [go_sem, undef, H.cs]
      refine callQ H (do_no (h.frame H.fr) { s with n := r } (⟨fun _ => by (first | (exfalso; (try simp only at *); omega) | ((try simp only); omega)), fun _ => by (first | (exfalso; (try simp only at *); omega) | ((try simp only); omega)), fun _ => by (first | (exfalso; (try simp only at *); omega) | ((try simp only); omega)), fun _ => by (first | (exfalso; (try simp only at *); omega) | ((try simp only); omega)), fun _ => by (first | (exfalso; (try simp only at *); omega) | ((try simp only); omega))⟩)) fun M f H => ?_
      (try simp (disch := omega) only [go_sem, undef, i64c])
      exact hQ _ H.fr
    have d1 := dec_f e1
    have d5 := dec_f e5
    have d7 := dec_f e7
    have d8 := dec_f e8
    have d9 := dec_f e9
    have d6 := dec_f e6
    have d2 := dec_f e2
    have d3 := dec_f e3
    have d4 := dec_f e4
    simp (disch := omega) only [go_sem, undef, H.cs, d1, d5, d7, d8, d9, d6, d2, d3, d4]
    refine callQ H (do_no (h.frame H.fr) s (⟨fun _ => by (first | (exfalso; (try simp only at *); omega) | ((try simp only); omega)), fun _ => by (first | (exfalso; (try simp only at *); omega) | ((try simp only); omega)), fun _ => by (first | (exfalso; (try simp only at *); omega) | ((try simp only); omega)), fun _ => by (first | (exfalso; (try simp only at *); omega) | ((try simp only); omega)), fun _ => by (first | (exfalso; (try simp only at *); omega) | ((try simp only); omega))⟩)) fun M f H => ?_
    (try simp (disch := omega) only [go_sem, undef, i64c])
    exact hQ _ H.fr
end Go.Fw
