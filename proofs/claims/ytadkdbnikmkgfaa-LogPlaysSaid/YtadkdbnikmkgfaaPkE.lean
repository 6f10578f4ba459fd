import Derived.Test.YtadkdbnikmkgfaaPkD
set_option linter.unusedSimpArgs false
set_option linter.unusedVariables false
namespace Go.Fw
open Go.Proofs
variable {m : Mem}
theorem textB_len (s : ByteArray) : (textB s).length ≤ 10 + s.size := by
  have := numB_len s.size
  rw [textB, List.length_append]
  have : s.data.toList.length = s.size := rfl
  omega
theorem CN_end {T : TypeId} {u : Value} {l l' : List UInt8} {m M : Mem} {L : List As} (H : Hq m M [] (byA T u l :: L)) (e : l = l') : ∃ A', A' = byA T u l' ∧ A'.p M ∧ Fr m M [] ∧ ∀ b ∈ A'.fp, m b = none := by
  subst e
  exact ⟨_, rfl, H.hs.1, H.fr, fun b hb => (H.done.2.2 b hb).resolve_left (by simp)⟩
theorem cmd_bounds {c : Cmd} (h : c.right) : 0 ≤ c.kind ∧ c.kind ≤ 5 ∧ 0 ≤ c.client ∧ c.client ≤ 8 ∧ 0 ≤ c.seq ∧ c.seq ≤ 1099511627776 ∧ c.key.size ≤ 16 ∧ c.fin.size ≤ 16 ∧ c.old.size ≤ 64 ∧ c.val.size ≤ 64 := by
  rcases h with rfl | h
  · simp [Cmd.zero, ByteArray.size]
  · omega
theorem cmd_Put_w {v : Value} {l : List UInt8} (hv : RdB m v l) (hl : l.length ≤ 100000) (c : Cmd) (hc : c.right) : CN Try.prog n_cmd_Put [v, c.v] m fun u A => A = byA T_uint8 u (l ++ cmdB c) := by
  obtain ⟨h1, h2, h3, h4, h5, h6, h7, h8, h9, h10⟩ := cmd_bounds hc
  refine cmd_Put_go (by simp [Try.f33]) ?_
  have H := Hq.refl m []
  simp (disch := omega) only [go_sem, undef]
  repeat' (first
    | ((with_reducible refine newQ H fun _ _ f H2 => ?_); clear f; clear H; have H := H2; clear H2; simp (disch := omega) only [go_sem, undef, H.cs, *, decide_eq_true hc])
    | ((with_reducible refine wrQ0 H fun _ f H2 => ?_); clear f; clear H; have H := H2; clear H2; simp (disch := omega) only [go_sem, undef, H.cs, *, decide_eq_true hc])
    | ((with_reducible refine wrQ1 H fun _ f H2 => ?_); clear f; clear H; have H := H2; clear H2; simp (disch := omega) only [go_sem, undef, H.cs, *, decide_eq_true hc])
    | ((with_reducible refine wrQ2 H fun _ f H2 => ?_); clear f; clear H; have H := H2; clear H2; simp (disch := omega) only [go_sem, undef, H.cs, *, decide_eq_true hc])
    | ((with_reducible refine wrQ3 H fun _ f H2 => ?_); clear f; clear H; have H := H2; clear H2; simp (disch := omega) only [go_sem, undef, H.cs, *, decide_eq_true hc])
    | ((with_reducible refine wrQ4 H fun _ f H2 => ?_); clear f; clear H; have H := H2; clear H2; simp (disch := omega) only [go_sem, undef, H.cs, *, decide_eq_true hc])
    | ((with_reducible refine wrQ5 H fun _ f H2 => ?_); clear f; clear H; have H := H2; clear H2; simp (disch := omega) only [go_sem, undef, H.cs, *, decide_eq_true hc])
    | ((with_reducible refine stwQ0 H ?hl ?h1 fun _ f H2 => ?_); (case hl => rfl); (case h1 => rfl); clear f; clear H; have H := H2; clear H2; simp (disch := omega) only [go_sem, undef, H.cs, *, decide_eq_true hc])
    | ((with_reducible refine stwQ1 H ?hl ?h1 fun _ f H2 => ?_); (case hl => rfl); (case h1 => rfl); clear f; clear H; have H := H2; clear H2; simp (disch := omega) only [go_sem, undef, H.cs, *, decide_eq_true hc])
    | ((with_reducible refine stwQ2 H ?hl ?h1 fun _ f H2 => ?_); (case hl => rfl); (case h1 => rfl); clear f; clear H; have H := H2; clear H2; simp (disch := omega) only [go_sem, undef, H.cs, *, decide_eq_true hc])
    | ((with_reducible refine stwQ3 H ?hl ?h1 fun _ f H2 => ?_); (case hl => rfl); (case h1 => rfl); clear f; clear H; have H := H2; clear H2; simp (disch := omega) only [go_sem, undef, H.cs, *, decide_eq_true hc])
    | ((with_reducible refine stwQ4 H ?hl ?h1 fun _ f H2 => ?_); (case hl => rfl); (case h1 => rfl); clear f; clear H; have H := H2; clear H2; simp (disch := omega) only [go_sem, undef, H.cs, *, decide_eq_true hc])
    | ((with_reducible refine stwQ5 H ?hl ?h1 fun _ f H2 => ?_); (case hl => rfl); (case h1 => rfl); clear f; clear H; have H := H2; clear H2; simp (disch := omega) only [go_sem, undef, H.cs, *, decide_eq_true hc])
    | ((with_reducible refine stQ0 H ?hl ?h1 fun _ f H2 => ?_); (case hl => exact Nat.le_of_ble_eq_true rfl); (case h1 => rfl); clear f; (simp only [go_sem] at H2); clear H; have H := H2; clear H2; simp (disch := omega) only [go_sem, undef, H.cs, *, decide_eq_true hc])
    | ((with_reducible refine stQ1 H ?hl ?h1 fun _ f H2 => ?_); (case hl => exact Nat.le_of_ble_eq_true rfl); (case h1 => rfl); clear f; (simp only [go_sem] at H2); clear H; have H := H2; clear H2; simp (disch := omega) only [go_sem, undef, H.cs, *, decide_eq_true hc])
    | ((with_reducible refine stQ2 H ?hl ?h1 fun _ f H2 => ?_); (case hl => exact Nat.le_of_ble_eq_true rfl); (case h1 => rfl); clear f; (simp only [go_sem] at H2); clear H; have H := H2; clear H2; simp (disch := omega) only [go_sem, undef, H.cs, *, decide_eq_true hc])
    | ((with_reducible refine stQ3 H ?hl ?h1 fun _ f H2 => ?_); (case hl => exact Nat.le_of_ble_eq_true rfl); (case h1 => rfl); clear f; (simp only [go_sem] at H2); clear H; have H := H2; clear H2; simp (disch := omega) only [go_sem, undef, H.cs, *, decide_eq_true hc])
    | ((with_reducible refine callQ H (cmd_Right_s _ _) fun _ f H2 => ?_); clear f; clear H; have H := H2; clear H2; simp (disch := omega) only [go_sem, undef, H.cs, *, decide_eq_true hc])
    | ((with_reducible refine tN0 H (fun h => pack_Num_w (byA_rd h) (by grind [numB_len, textB_len, List.length_append]) _ (by omega)) fun _ _ _ e f H2 => ?_); subst e; clear f; clear H; have H := H2; clear H2; simp (disch := omega) only [go_sem, undef, H.cs, *, decide_eq_true hc])
    | ((with_reducible refine tN1 H (fun h => pack_Num_w (byA_rd h) (by grind [numB_len, textB_len, List.length_append]) _ (by omega)) fun _ _ _ e f H2 => ?_); subst e; clear f; clear H; have H := H2; clear H2; simp (disch := omega) only [go_sem, undef, H.cs, *, decide_eq_true hc])
    | ((with_reducible refine tN2 H (fun h => pack_Num_w (byA_rd h) (by grind [numB_len, textB_len, List.length_append]) _ (by omega)) fun _ _ _ e f H2 => ?_); subst e; clear f; clear H; have H := H2; clear H2; simp (disch := omega) only [go_sem, undef, H.cs, *, decide_eq_true hc])
    | ((with_reducible refine callN H (pack_Num_w (hv.frame H.fr) (by omega) _ (by omega)) fun _ _ _ e f H2 => ?_); subst e; clear f; clear H; have H := H2; clear H2; simp (disch := omega) only [go_sem, undef, H.cs, *, decide_eq_true hc])
    | ((with_reducible refine tN0 H (fun h => pack_Text_w (byA_rd h) (by grind [numB_len, textB_len, List.length_append]) _ (by omega)) fun _ _ _ e f H2 => ?_); subst e; clear f; clear H; have H := H2; clear H2; simp (disch := omega) only [go_sem, undef, H.cs, *, decide_eq_true hc])
    | ((with_reducible refine tN1 H (fun h => pack_Text_w (byA_rd h) (by grind [numB_len, textB_len, List.length_append]) _ (by omega)) fun _ _ _ e f H2 => ?_); subst e; clear f; clear H; have H := H2; clear H2; simp (disch := omega) only [go_sem, undef, H.cs, *, decide_eq_true hc])
    | ((with_reducible refine tN2 H (fun h => pack_Text_w (byA_rd h) (by grind [numB_len, textB_len, List.length_append]) _ (by omega)) fun _ _ _ e f H2 => ?_); subst e; clear f; clear H; have H := H2; clear H2; simp (disch := omega) only [go_sem, undef, H.cs, *, decide_eq_true hc])
    | ((with_reducible refine gQ_split (fun hq => ?_) (fun hq => ?_)) <;> (try simp only [Bool.not_true, Bool.not_false] at hq) <;> simp (disch := omega) only [go_sem, undef, H.cs, *, decide_eq_true hc])
    | ((with_reducible refine condB_split (fun hq => ?_) (fun hq => ?_)) <;> simp (disch := omega) only [go_sem, undef, H.cs, *, decide_eq_true hc]))
  all_goals (simp only [decide_eq_true_eq, decide_eq_false_iff_not] at *)
  all_goals first
    | exact post_intro (CN_end H (by simp [cmdB, cmdT, *]))
    | (exfalso; omega)
theorem deps_Put_w {v : Value} {l : List UInt8} (hv : RdB m v l) (hl : l.length ≤ 100000) (a : Att) (ha : rightA a) : CN Try.prog n_deps_Put [v, a.v] m fun u A => A = byA T_uint8 u (l ++ attB a) := by
  refine deps_Put_go (by simp [Try.f33]) ?_
  have H := Hq.refl m []
  have hs := ha.2
  have hd : ∀ k, k < 7 → 0 ≤ a.deps.g k ∧ a.deps.g k ≤ 1073741824 := fun k hk => by rw [Dp.g_lt _ hk]; exact ha.1 _
  simp (disch := omega) only [go_sem, undef]
  refine newQ H fun b1 _ _ H => ?_
  simp (disch := omega) only [go_sem, undef, H.cs]
  refine callN H (pack_Num_w (hv.frame H.fr) (by omega) _ (by omega)) fun u M A' e f H => ?_
  subst e
  simp (disch := omega) only [go_sem, undef, H.cs]
  refine loopQ_intro (fun n E m' => ∃ k u, k ≤ 7 ∧ n = 7 - k ∧ E = [(0, u), (12, .agg (dv a.deps).toArray), (13, .int .i64 (k : Nat))] ∧ (depsB a.deps k).length ≤ 10 * k ∧ Hq m m' [] [byA T_uint8 u (l ++ numB a.seq ++ depsB a.deps k)]) 7 rfl ⟨0, u, by omega, rfl, rfl, by simp [depsB], by simpa [depsB] using dropQ1 H⟩ ?_
  clear H f
  rintro n E m' ⟨k, u, hk, rfl, rfl, hlen, H⟩
  simp (disch := omega) only [go_sem, undef]
  have hn := numB_len a.seq
  refine condB_dec (fun h1 => ?_) (fun h1 => ?_)
  · have h2 : k < 7 := by omega
    have h3 := hd k h2
    have h4 := numB_len (a.deps.g k)
    simp (disch := omega) only [go_sem, undef]
    refine tN0 H (fun h => pack_Num_w (byA_rd h) (by simp only [List.length_append]; omega) _ (by omega)) fun u2 M A' e f H => ?_
    subst e
    simp (disch := omega) only [go_sem, undef]
    exact handN_intro (7 - (k + 1)) (by omega) ⟨k + 1, u2, by omega, rfl, rfl, by simp only [depsB, List.length_append]; omega, by simpa [depsB] using dropQ1 H⟩
  · have h2 : k = 7 := by omega
    subst h2
    simp (disch := omega) only [go_sem, undef]
    exact CN_end H (by simp [attB])
theorem ballot_w {v : Value} {l : List UInt8} (hv : RdB m v l) (hl : l.length ≤ 100000) (p : Int × Int) (hp : (-9223372036854775808 ≤ p.1 ∧ p.1 ≤ 9223372036854775807) ∧ -9223372036854775808 ≤ p.2 ∧ p.2 ≤ 9223372036854775807) : CN Try.prog n_letter_ballot [v, pv p] m fun u A => A = byA T_uint8 u (l ++ ballB p) := by
  refine letter_ballot_go (by simp [Try.f33]) ?_
  have H := Hq.refl m []
  simp (disch := omega) only [go_sem, undef]
  repeat' (first
    | ((with_reducible refine newQ H fun _ _ f H2 => ?_); clear f; clear H; have H := H2; clear H2; simp (disch := omega) only [go_sem, undef, H.cs, *])
    | ((with_reducible refine wrQ0 H fun _ f H2 => ?_); clear f; clear H; have H := H2; clear H2; simp (disch := omega) only [go_sem, undef, H.cs, *])
    | ((with_reducible refine wrQ1 H fun _ f H2 => ?_); clear f; clear H; have H := H2; clear H2; simp (disch := omega) only [go_sem, undef, H.cs, *])
    | ((with_reducible refine wrQ2 H fun _ f H2 => ?_); clear f; clear H; have H := H2; clear H2; simp (disch := omega) only [go_sem, undef, H.cs, *])
    | ((with_reducible refine wrQ3 H fun _ f H2 => ?_); clear f; clear H; have H := H2; clear H2; simp (disch := omega) only [go_sem, undef, H.cs, *])
    | ((with_reducible refine wrQ4 H fun _ f H2 => ?_); clear f; clear H; have H := H2; clear H2; simp (disch := omega) only [go_sem, undef, H.cs, *])
    | ((with_reducible refine wrQ5 H fun _ f H2 => ?_); clear f; clear H; have H := H2; clear H2; simp (disch := omega) only [go_sem, undef, H.cs, *])
    | ((with_reducible refine stwQ0 H ?hl ?h1 fun _ f H2 => ?_); (case hl => rfl); (case h1 => rfl); clear f; clear H; have H := H2; clear H2; simp (disch := omega) only [go_sem, undef, H.cs, *])
    | ((with_reducible refine stwQ1 H ?hl ?h1 fun _ f H2 => ?_); (case hl => rfl); (case h1 => rfl); clear f; clear H; have H := H2; clear H2; simp (disch := omega) only [go_sem, undef, H.cs, *])
    | ((with_reducible refine stwQ2 H ?hl ?h1 fun _ f H2 => ?_); (case hl => rfl); (case h1 => rfl); clear f; clear H; have H := H2; clear H2; simp (disch := omega) only [go_sem, undef, H.cs, *])
    | ((with_reducible refine stwQ3 H ?hl ?h1 fun _ f H2 => ?_); (case hl => rfl); (case h1 => rfl); clear f; clear H; have H := H2; clear H2; simp (disch := omega) only [go_sem, undef, H.cs, *])
    | ((with_reducible refine stwQ4 H ?hl ?h1 fun _ f H2 => ?_); (case hl => rfl); (case h1 => rfl); clear f; clear H; have H := H2; clear H2; simp (disch := omega) only [go_sem, undef, H.cs, *])
    | ((with_reducible refine stwQ5 H ?hl ?h1 fun _ f H2 => ?_); (case hl => rfl); (case h1 => rfl); clear f; clear H; have H := H2; clear H2; simp (disch := omega) only [go_sem, undef, H.cs, *])
    | ((with_reducible refine stQ0 H ?hl ?h1 fun _ f H2 => ?_); (case hl => exact Nat.le_of_ble_eq_true rfl); (case h1 => rfl); clear f; (simp only [go_sem] at H2); clear H; have H := H2; clear H2; simp (disch := omega) only [go_sem, undef, H.cs, *])
    | ((with_reducible refine stQ1 H ?hl ?h1 fun _ f H2 => ?_); (case hl => exact Nat.le_of_ble_eq_true rfl); (case h1 => rfl); clear f; (simp only [go_sem] at H2); clear H; have H := H2; clear H2; simp (disch := omega) only [go_sem, undef, H.cs, *])
    | ((with_reducible refine stQ2 H ?hl ?h1 fun _ f H2 => ?_); (case hl => exact Nat.le_of_ble_eq_true rfl); (case h1 => rfl); clear f; (simp only [go_sem] at H2); clear H; have H := H2; clear H2; simp (disch := omega) only [go_sem, undef, H.cs, *])
    | ((with_reducible refine stQ3 H ?hl ?h1 fun _ f H2 => ?_); (case hl => exact Nat.le_of_ble_eq_true rfl); (case h1 => rfl); clear f; (simp only [go_sem] at H2); clear H; have H := H2; clear H2; simp (disch := omega) only [go_sem, undef, H.cs, *])
    | ((with_reducible refine tN0 H (fun h => pack_Num_w (byA_rd h) (by grind [numB_len, textB_len, List.length_append]) _ (by omega)) fun _ _ _ e f H2 => ?_); subst e; clear f; clear H; have H := H2; clear H2; simp (disch := omega) only [go_sem, undef, H.cs, *])
    | ((with_reducible refine tN1 H (fun h => pack_Num_w (byA_rd h) (by grind [numB_len, textB_len, List.length_append]) _ (by omega)) fun _ _ _ e f H2 => ?_); subst e; clear f; clear H; have H := H2; clear H2; simp (disch := omega) only [go_sem, undef, H.cs, *])
    | ((with_reducible refine tN2 H (fun h => pack_Num_w (byA_rd h) (by grind [numB_len, textB_len, List.length_append]) _ (by omega)) fun _ _ _ e f H2 => ?_); subst e; clear f; clear H; have H := H2; clear H2; simp (disch := omega) only [go_sem, undef, H.cs, *])
    | ((with_reducible refine callN H (pack_Num_w (hv.frame H.fr) (by omega) _ (by omega)) fun _ _ _ e f H2 => ?_); subst e; clear f; clear H; have H := H2; clear H2; simp (disch := omega) only [go_sem, undef, H.cs, *])
    | ((with_reducible refine gQ_split (fun hq => ?_) (fun hq => ?_)) <;> (try simp only [Bool.not_true, Bool.not_false] at hq) <;> simp (disch := omega) only [go_sem, undef, H.cs, *])
    | ((with_reducible refine condB_split (fun hq => ?_) (fun hq => ?_)) <;> simp (disch := omega) only [go_sem, undef, H.cs, *]))
  exact post_intro (CN_end H (by simp [ballB]))
theorem depsB_len (d : Dp) : ∀ k, (depsB d k).length ≤ 10 * k
  | 0 => by simp [depsB]
  | k + 1 => by
    have := depsB_len d k
    have := numB_len (d.g k)
    simp only [depsB, List.length_append]; omega
theorem cmdB_len {c : Cmd} (h : c.right) : (cmdB c).length ≤ 300 := by
  obtain ⟨h1, h2, h3, h4, h5, h6, h7, h8, h9, h10⟩ := cmd_bounds h
  have := numB_len c.kind
  have := numB_len c.client
  have := numB_len c.seq
  have := textB_len c.key
  have := textB_len c.fin
  have := textB_len c.old
  have := textB_len c.val
  unfold cmdB cmdT
  split
  · simp; omega
  · split
    · simp only [List.length_append]; omega
    · split
      · simp only [List.length_append]; omega
      · split <;> simp only [List.length_append, List.length_nil] <;> omega
theorem ballB_len (p : Int × Int) : (ballB p).length ≤ 20 := by
  have := numB_len p.1
  have := numB_len p.2
  simp only [ballB, List.length_append]; omega
theorem attB_len (a : Att) : (attB a).length ≤ 80 := by
  have := numB_len a.seq
  have := depsB_len a.deps 7
  simp only [attB, List.length_append]; omega
set_option maxHeartbeats 2000000 in
theorem letter_PutCell_w {v : Value} {l : List UInt8} (hv : RdB m v l) (hl : l.length ≤ 10000) (c : Cel) (hc : c.right) : CN Try.prog n_letter_PutCell [v, c.v] m fun u A => A = byA T_uint8 u (l ++ celB c) := by
  have hc0 := hc
  obtain ⟨h1, h2, h3, h4, _, _, _, h5, h6⟩ := hc
  have := cmdB_len h5
  refine letter_PutCell_go (by simp [Try.f33]) ?_
  have H := Hq.refl m []
  simp (disch := omega) only [go_sem, undef]
  repeat' (first
    | ((with_reducible refine newQ H fun _ _ f H2 => ?_); clear f; clear H; have H := H2; clear H2; simp (disch := omega) only [go_sem, undef, H.cs, *, decide_eq_true hc0])
    | ((with_reducible refine wrQ0 H fun _ f H2 => ?_); clear f; clear H; have H := H2; clear H2; simp (disch := omega) only [go_sem, undef, H.cs, *, decide_eq_true hc0])
    | ((with_reducible refine wrQ1 H fun _ f H2 => ?_); clear f; clear H; have H := H2; clear H2; simp (disch := omega) only [go_sem, undef, H.cs, *, decide_eq_true hc0])
    | ((with_reducible refine wrQ2 H fun _ f H2 => ?_); clear f; clear H; have H := H2; clear H2; simp (disch := omega) only [go_sem, undef, H.cs, *, decide_eq_true hc0])
    | ((with_reducible refine wrQ3 H fun _ f H2 => ?_); clear f; clear H; have H := H2; clear H2; simp (disch := omega) only [go_sem, undef, H.cs, *, decide_eq_true hc0])
    | ((with_reducible refine wrQ4 H fun _ f H2 => ?_); clear f; clear H; have H := H2; clear H2; simp (disch := omega) only [go_sem, undef, H.cs, *, decide_eq_true hc0])
    | ((with_reducible refine wrQ5 H fun _ f H2 => ?_); clear f; clear H; have H := H2; clear H2; simp (disch := omega) only [go_sem, undef, H.cs, *, decide_eq_true hc0])
    | ((with_reducible refine stwQ0 H ?hl ?h1 fun _ f H2 => ?_); (case hl => rfl); (case h1 => rfl); clear f; clear H; have H := H2; clear H2; simp (disch := omega) only [go_sem, undef, H.cs, *, decide_eq_true hc0])
    | ((with_reducible refine stwQ1 H ?hl ?h1 fun _ f H2 => ?_); (case hl => rfl); (case h1 => rfl); clear f; clear H; have H := H2; clear H2; simp (disch := omega) only [go_sem, undef, H.cs, *, decide_eq_true hc0])
    | ((with_reducible refine stwQ2 H ?hl ?h1 fun _ f H2 => ?_); (case hl => rfl); (case h1 => rfl); clear f; clear H; have H := H2; clear H2; simp (disch := omega) only [go_sem, undef, H.cs, *, decide_eq_true hc0])
    | ((with_reducible refine stwQ3 H ?hl ?h1 fun _ f H2 => ?_); (case hl => rfl); (case h1 => rfl); clear f; clear H; have H := H2; clear H2; simp (disch := omega) only [go_sem, undef, H.cs, *, decide_eq_true hc0])
    | ((with_reducible refine stwQ4 H ?hl ?h1 fun _ f H2 => ?_); (case hl => rfl); (case h1 => rfl); clear f; clear H; have H := H2; clear H2; simp (disch := omega) only [go_sem, undef, H.cs, *, decide_eq_true hc0])
    | ((with_reducible refine stwQ5 H ?hl ?h1 fun _ f H2 => ?_); (case hl => rfl); (case h1 => rfl); clear f; clear H; have H := H2; clear H2; simp (disch := omega) only [go_sem, undef, H.cs, *, decide_eq_true hc0])
    | ((with_reducible refine stQ0 H ?hl ?h1 fun _ f H2 => ?_); (case hl => exact Nat.le_of_ble_eq_true rfl); (case h1 => rfl); clear f; (simp only [go_sem] at H2); clear H; have H := H2; clear H2; simp (disch := omega) only [go_sem, undef, H.cs, *, decide_eq_true hc0])
    | ((with_reducible refine stQ1 H ?hl ?h1 fun _ f H2 => ?_); (case hl => exact Nat.le_of_ble_eq_true rfl); (case h1 => rfl); clear f; (simp only [go_sem] at H2); clear H; have H := H2; clear H2; simp (disch := omega) only [go_sem, undef, H.cs, *, decide_eq_true hc0])
    | ((with_reducible refine stQ2 H ?hl ?h1 fun _ f H2 => ?_); (case hl => exact Nat.le_of_ble_eq_true rfl); (case h1 => rfl); clear f; (simp only [go_sem] at H2); clear H; have H := H2; clear H2; simp (disch := omega) only [go_sem, undef, H.cs, *, decide_eq_true hc0])
    | ((with_reducible refine stQ3 H ?hl ?h1 fun _ f H2 => ?_); (case hl => exact Nat.le_of_ble_eq_true rfl); (case h1 => rfl); clear f; (simp only [go_sem] at H2); clear H; have H := H2; clear H2; simp (disch := omega) only [go_sem, undef, H.cs, *, decide_eq_true hc0])
    | ((with_reducible refine callQ H (letter_RightCell_s _ _) fun _ f H2 => ?_); clear f; clear H; have H := H2; clear H2; simp (disch := omega) only [go_sem, undef, H.cs, *, decide_eq_true hc0])
    | ((with_reducible refine callN H (pack_Num_w (hv.frame H.fr) (by omega) _ (by omega)) fun _ _ _ e f H2 => ?_); subst e; clear f; clear H; have H := H2; clear H2; simp (disch := omega) only [go_sem, undef, H.cs, *, decide_eq_true hc0])
    | ((with_reducible refine tN0 H (fun h => ballot_w (byA_rd h) (by grind [numB_len, ballB_len, cmdB_len, attB_len, List.length_append]) _ (by omega)) fun _ _ _ e f H2 => ?_); subst e; clear f; clear H; have H := H2; clear H2; simp (disch := omega) only [go_sem, undef, H.cs, *, decide_eq_true hc0])
    | ((with_reducible refine tN1 H (fun h => ballot_w (byA_rd h) (by grind [numB_len, ballB_len, cmdB_len, attB_len, List.length_append]) _ (by omega)) fun _ _ _ e f H2 => ?_); subst e; clear f; clear H; have H := H2; clear H2; simp (disch := omega) only [go_sem, undef, H.cs, *, decide_eq_true hc0])
    | ((with_reducible refine tN2 H (fun h => ballot_w (byA_rd h) (by grind [numB_len, ballB_len, cmdB_len, attB_len, List.length_append]) _ (by omega)) fun _ _ _ e f H2 => ?_); subst e; clear f; clear H; have H := H2; clear H2; simp (disch := omega) only [go_sem, undef, H.cs, *, decide_eq_true hc0])
    | ((with_reducible refine tN0 H (fun h => cmd_Put_w (byA_rd h) (by grind [numB_len, ballB_len, cmdB_len, attB_len, List.length_append]) _ h5) fun _ _ _ e f H2 => ?_); subst e; clear f; clear H; have H := H2; clear H2; simp (disch := omega) only [go_sem, undef, H.cs, *, decide_eq_true hc0])
    | ((with_reducible refine tN1 H (fun h => cmd_Put_w (byA_rd h) (by grind [numB_len, ballB_len, cmdB_len, attB_len, List.length_append]) _ h5) fun _ _ _ e f H2 => ?_); subst e; clear f; clear H; have H := H2; clear H2; simp (disch := omega) only [go_sem, undef, H.cs, *, decide_eq_true hc0])
    | ((with_reducible refine tN2 H (fun h => cmd_Put_w (byA_rd h) (by grind [numB_len, ballB_len, cmdB_len, attB_len, List.length_append]) _ h5) fun _ _ _ e f H2 => ?_); subst e; clear f; clear H; have H := H2; clear H2; simp (disch := omega) only [go_sem, undef, H.cs, *, decide_eq_true hc0])
    | ((with_reducible refine tN0 H (fun h => deps_Put_w (byA_rd h) (by grind [numB_len, ballB_len, cmdB_len, attB_len, List.length_append]) _ h6) fun _ _ _ e f H2 => ?_); subst e; clear f; clear H; have H := H2; clear H2; simp (disch := omega) only [go_sem, undef, H.cs, *, decide_eq_true hc0])
    | ((with_reducible refine tN1 H (fun h => deps_Put_w (byA_rd h) (by grind [numB_len, ballB_len, cmdB_len, attB_len, List.length_append]) _ h6) fun _ _ _ e f H2 => ?_); subst e; clear f; clear H; have H := H2; clear H2; simp (disch := omega) only [go_sem, undef, H.cs, *, decide_eq_true hc0])
    | ((with_reducible refine tN2 H (fun h => deps_Put_w (byA_rd h) (by grind [numB_len, ballB_len, cmdB_len, attB_len, List.length_append]) _ h6) fun _ _ _ e f H2 => ?_); subst e; clear f; clear H; have H := H2; clear H2; simp (disch := omega) only [go_sem, undef, H.cs, *, decide_eq_true hc0])
    | ((with_reducible refine tN0 H (fun h => pack_Flag_w (byA_rd h) (by grind [numB_len, ballB_len, cmdB_len, attB_len, List.length_append]) _) fun _ _ _ e f H2 => ?_); subst e; clear f; clear H; have H := H2; clear H2; simp (disch := omega) only [go_sem, undef, H.cs, *, decide_eq_true hc0])
    | ((with_reducible refine tN1 H (fun h => pack_Flag_w (byA_rd h) (by grind [numB_len, ballB_len, cmdB_len, attB_len, List.length_append]) _) fun _ _ _ e f H2 => ?_); subst e; clear f; clear H; have H := H2; clear H2; simp (disch := omega) only [go_sem, undef, H.cs, *, decide_eq_true hc0])
    | ((with_reducible refine tN2 H (fun h => pack_Flag_w (byA_rd h) (by grind [numB_len, ballB_len, cmdB_len, attB_len, List.length_append]) _) fun _ _ _ e f H2 => ?_); subst e; clear f; clear H; have H := H2; clear H2; simp (disch := omega) only [go_sem, undef, H.cs, *, decide_eq_true hc0])
    | ((with_reducible refine gQ_split (fun hq => ?_) (fun hq => ?_)) <;> (try simp only [Bool.not_true, Bool.not_false] at hq) <;> simp (disch := omega) only [go_sem, undef, H.cs, *, decide_eq_true hc0])
    | ((with_reducible refine condB_split (fun hq => ?_) (fun hq => ?_)) <;> simp (disch := omega) only [go_sem, undef, H.cs, *, decide_eq_true hc0]))
  all_goals (simp only [decide_eq_true_eq, decide_eq_false_iff_not] at *)
  all_goals exact post_intro (CN_end H (by
    rw [celB]
    first
      | rw [if_pos hq]
      | rw [if_neg hq]
    simp only [List.append_assoc, List.append_nil]))
theorem log_Record_w (i : Int × Int) (hi : (-9223372036854775808 ≤ i.1 ∧ i.1 ≤ 9223372036854775807) ∧ -9223372036854775808 ≤ i.2 ∧ i.2 ≤ 9223372036854775807) (c : Cel) (hc : c.right) : CN Try.prog n_log_Record [pv i, c.v] m fun u A => A = byA T_uint8 u (recB i c) := by
  refine log_Record_go (Nat.le_of_ble_eq_true rfl) ?_
  have H := Hq.refl m []
  simp (disch := omega) only [go_sem, undef]
  repeat' (first
    | ((with_reducible refine newQ H fun _ _ f H2 => ?_); clear f; clear H; have H := H2; clear H2; simp (disch := omega) only [go_sem, undef, H.cs, *])
    | ((with_reducible refine wrQ0 H fun _ f H2 => ?_); clear f; clear H; have H := H2; clear H2; simp (disch := omega) only [go_sem, undef, H.cs, *])
    | ((with_reducible refine wrQ1 H fun _ f H2 => ?_); clear f; clear H; have H := H2; clear H2; simp (disch := omega) only [go_sem, undef, H.cs, *])
    | ((with_reducible refine wrQ2 H fun _ f H2 => ?_); clear f; clear H; have H := H2; clear H2; simp (disch := omega) only [go_sem, undef, H.cs, *])
    | ((with_reducible refine wrQ3 H fun _ f H2 => ?_); clear f; clear H; have H := H2; clear H2; simp (disch := omega) only [go_sem, undef, H.cs, *])
    | ((with_reducible refine wrQ4 H fun _ f H2 => ?_); clear f; clear H; have H := H2; clear H2; simp (disch := omega) only [go_sem, undef, H.cs, *])
    | ((with_reducible refine wrQ5 H fun _ f H2 => ?_); clear f; clear H; have H := H2; clear H2; simp (disch := omega) only [go_sem, undef, H.cs, *])
    | ((with_reducible refine stwQ0 H ?hl ?h1 fun _ f H2 => ?_); (case hl => rfl); (case h1 => rfl); clear f; clear H; have H := H2; clear H2; simp (disch := omega) only [go_sem, undef, H.cs, *])
    | ((with_reducible refine stwQ1 H ?hl ?h1 fun _ f H2 => ?_); (case hl => rfl); (case h1 => rfl); clear f; clear H; have H := H2; clear H2; simp (disch := omega) only [go_sem, undef, H.cs, *])
    | ((with_reducible refine stwQ2 H ?hl ?h1 fun _ f H2 => ?_); (case hl => rfl); (case h1 => rfl); clear f; clear H; have H := H2; clear H2; simp (disch := omega) only [go_sem, undef, H.cs, *])
    | ((with_reducible refine stwQ3 H ?hl ?h1 fun _ f H2 => ?_); (case hl => rfl); (case h1 => rfl); clear f; clear H; have H := H2; clear H2; simp (disch := omega) only [go_sem, undef, H.cs, *])
    | ((with_reducible refine stwQ4 H ?hl ?h1 fun _ f H2 => ?_); (case hl => rfl); (case h1 => rfl); clear f; clear H; have H := H2; clear H2; simp (disch := omega) only [go_sem, undef, H.cs, *])
    | ((with_reducible refine stwQ5 H ?hl ?h1 fun _ f H2 => ?_); (case hl => rfl); (case h1 => rfl); clear f; clear H; have H := H2; clear H2; simp (disch := omega) only [go_sem, undef, H.cs, *])
    | ((with_reducible refine stQ0 H ?hl ?h1 fun _ f H2 => ?_); (case hl => exact Nat.le_of_ble_eq_true rfl); (case h1 => rfl); clear f; (simp only [go_sem] at H2); clear H; have H := H2; clear H2; simp (disch := omega) only [go_sem, undef, H.cs, *])
    | ((with_reducible refine stQ1 H ?hl ?h1 fun _ f H2 => ?_); (case hl => exact Nat.le_of_ble_eq_true rfl); (case h1 => rfl); clear f; (simp only [go_sem] at H2); clear H; have H := H2; clear H2; simp (disch := omega) only [go_sem, undef, H.cs, *])
    | ((with_reducible refine stQ2 H ?hl ?h1 fun _ f H2 => ?_); (case hl => exact Nat.le_of_ble_eq_true rfl); (case h1 => rfl); clear f; (simp only [go_sem] at H2); clear H; have H := H2; clear H2; simp (disch := omega) only [go_sem, undef, H.cs, *])
    | ((with_reducible refine stQ3 H ?hl ?h1 fun _ f H2 => ?_); (case hl => exact Nat.le_of_ble_eq_true rfl); (case h1 => rfl); clear f; (simp only [go_sem] at H2); clear H; have H := H2; clear H2; simp (disch := omega) only [go_sem, undef, H.cs, *])
    | ((with_reducible refine callN H (pack_Num_w (RdS.nil bc_len _) (by simp) _ (by omega)) fun _ _ _ e f H2 => ?_); subst e; clear f; clear H; have H := H2; clear H2; simp (disch := omega) only [go_sem, undef, H.cs, *])
    | ((with_reducible refine tN0 H (fun h => pack_Num_w (byA_rd h) (by grind [numB_len, ballB_len, cmdB_len, attB_len, List.length_append, List.length_nil]) _ (by omega)) fun _ _ _ e f H2 => ?_); subst e; clear f; clear H; have H := H2; clear H2; simp (disch := omega) only [go_sem, undef, H.cs, *])
    | ((with_reducible refine tN1 H (fun h => pack_Num_w (byA_rd h) (by grind [numB_len, ballB_len, cmdB_len, attB_len, List.length_append, List.length_nil]) _ (by omega)) fun _ _ _ e f H2 => ?_); subst e; clear f; clear H; have H := H2; clear H2; simp (disch := omega) only [go_sem, undef, H.cs, *])
    | ((with_reducible refine tN2 H (fun h => pack_Num_w (byA_rd h) (by grind [numB_len, ballB_len, cmdB_len, attB_len, List.length_append, List.length_nil]) _ (by omega)) fun _ _ _ e f H2 => ?_); subst e; clear f; clear H; have H := H2; clear H2; simp (disch := omega) only [go_sem, undef, H.cs, *])
    | ((with_reducible refine tN0 H (fun h => letter_PutCell_w (byA_rd h) (by grind [numB_len, ballB_len, cmdB_len, attB_len, List.length_append, List.length_nil]) _ hc) fun _ _ _ e f H2 => ?_); subst e; clear f; clear H; have H := H2; clear H2; simp (disch := omega) only [go_sem, undef, H.cs, *])
    | ((with_reducible refine tN1 H (fun h => letter_PutCell_w (byA_rd h) (by grind [numB_len, ballB_len, cmdB_len, attB_len, List.length_append, List.length_nil]) _ hc) fun _ _ _ e f H2 => ?_); subst e; clear f; clear H; have H := H2; clear H2; simp (disch := omega) only [go_sem, undef, H.cs, *])
    | ((with_reducible refine tN2 H (fun h => letter_PutCell_w (byA_rd h) (by grind [numB_len, ballB_len, cmdB_len, attB_len, List.length_append, List.length_nil]) _ hc) fun _ _ _ e f H2 => ?_); subst e; clear f; clear H; have H := H2; clear H2; simp (disch := omega) only [go_sem, undef, H.cs, *])
    | ((with_reducible refine gQ_split (fun hq => ?_) (fun hq => ?_)) <;> (try simp only [Bool.not_true, Bool.not_false] at hq) <;> simp (disch := omega) only [go_sem, undef, H.cs, *])
    | ((with_reducible refine condB_split (fun hq => ?_) (fun hq => ?_)) <;> simp (disch := omega) only [go_sem, undef, H.cs, *]))
  exact post_intro (CN_end H (by simp [recB, ballB]))
end Go.Fw
