import Derived.Test.YtpjecpkkcabnjaaGreatDoorSwH
set_option linter.unusedVariables false
set_option linter.unusedSimpArgs false
/-! shell.Parse. -/
namespace Go.Fw
open Go.Proofs Go.Sh
variable {m m0 M : Mem} {S : List Nat} {L : List As}
theorem numV_i64 (w : List UInt8) : I64 (numV w) := by
  unfold numV
  rcases h : Lib.atoiAll w with v | _ | _
  · show I64 v
    unfold Lib.atoiAll at h
    cases w with
    | nil => cases h
    | cons c r =>
      simp only at h
      rcases hm : Lib.parseMag (if c.toNat = 43 ∨ c.toNat = 45 then r else c :: r) with u | _ | _
      · rw [hm] at h
        simp only at h
        have := Lib.parseMag_lt hm
        by_cases h3 : c.toNat = 45
        · simp only [h3, not_true, false_and, if_false, true_and, if_true] at h
          split at h
          · cases h
          · injection h with h; subst h; unfold I64; omega
        · simp only [h3, not_false_eq_true, true_and, false_and, if_false] at h
          split at h
          · cases h
          · injection h with h; subst h; unfold I64; omega
      · rw [hm] at h; cases h
      · rw [hm] at h; cases h
  · show I64 0
    unfold I64; omega
  · show I64 (Lib.atoiSat w)
    unfold Lib.atoiSat; split <;> (unfold I64; omega)
theorem textGo_len : ∀ (l : List UInt8), (textGo l).length ≤ l.length
  | [] => by simp [textGo]
  | [_] => by simp [textGo]
  | [_, _] => by simp [textGo]
  | c :: h :: l :: r => by
    simp only [textGo]
    split
    · have := textGo_len r; simp only [List.length_cons]; omega
    · have := textGo_len (h :: l :: r); simp only [List.length_cons] at *; omega
theorem textL_len (w : List UInt8) : (textL w).length ≤ w.length := by
  have := textGo_len (w.drop 1)
  unfold textL
  rw [List.length_drop] at this; omega
theorem splitS_mem : ∀ (l : List UInt8) (w : List UInt8), w ∈ splitS l → w.length ≤ l.length
  | [], w, h => by simp [splitS] at h; subst h; simp
  | c :: r, w, h => by
    have ih := splitS_mem r
    simp only [splitS] at h
    split at h
    · rcases List.mem_cons.1 h with rfl | h
      · simp
      · have := ih w h; simp only [List.length_cons]; omega
    · split at h
      · rename_i a b hs
        rcases List.mem_cons.1 h with rfl | h
        · have := ih a (by rw [hs]; exact List.mem_cons_self ..); simp only [List.length_cons]; omega
        · have := ih w (by rw [hs]; exact List.mem_cons_of_mem _ h); simp only [List.length_cons]; omega
      · simp at h; subst h; simp
theorem hd_i64 (l : List (List UInt8)) : I64 (hd l numV) := by unfold hd; split; (unfold I64; omega); exact numV_i64 _
theorem ht_len {n : Nat} {l : List (List UInt8)} (h : ∀ w ∈ l, w.length ≤ n) : (ht l).length ≤ n := by
  unfold ht
  split
  · simp
  · rename_i w r; exact Nat.le_trans (textL_len w) (h w (List.mem_cons_self ..))
theorem read_fit (l : List (List UInt8)) (hl : l.length ≤ 5001) (hw : ∀ w ∈ l, w.length ≤ 5000) : Fit (readP l) := by
  rw [readP_eq]
  have hd1 : ∀ n, ∀ w ∈ (l.drop 1).drop n, w.length ≤ 5000 := fun n w h => hw w (List.mem_of_mem_drop (List.mem_of_mem_drop h))
  have hd2 : ∀ n k, ∀ w ∈ ((l.drop 1).drop n).drop k, w.length ≤ 5000 := fun n k w h => hd1 n w (List.mem_of_mem_drop h)
  have z : I64 0 := by unfold I64; omega
  have hp : ∀ x ∈ ((l.drop 1).drop 1).map numV, I64 x := fun x hx => by
    obtain ⟨w, _, rfl⟩ := List.mem_map.1 hx
    exact numV_i64 w
  have hpl : (((l.drop 1).drop 1).map numV).length ≤ 5001 := by simp; omega
  unfold readL
  simp only
  split
  · refine ⟨⟨hd_i64 _, z, hd_i64 _, fun x hx => by cases hx⟩, ?_, ?_, ?_, ?_, by simp [readT]⟩
    · exact ht_len (hd1 2)
    · show (if _ then _ else _ : List UInt8).length ≤ 5000
      split; exact ht_len (hd2 2 1); simp
    · show (if _ then _ else _ : List UInt8).length ≤ 5000
      split; exact ht_len (hd2 2 1); simp
    · show (if _ then _ else _ : List UInt8).length ≤ 5000
      split; exact ht_len (hd2 2 1)
      split; exact ht_len (hd2 2 2); simp
  · split
    · exact ⟨⟨hd_i64 _, hd_i64 _, z, fun x hx => by cases hx⟩, by simp, by simp, by simp, by simp, by simp⟩
    · refine ⟨⟨hd_i64 _, z, z, ?_⟩, by simp, by simp, by simp, by simp, ?_⟩
      · intro x hx
        simp only at hx
        split at hx
        · exact hp x hx
        · cases hx
      · simp only
        split
        · exact hpl
        · simp
theorem line_fit {l : List UInt8} (h : l.length ≤ 5000) : Fit (readP (splitS l)) :=
  read_fit _ (by have := splitS_le l; omega) fun w hw => Nat.le_trans (splitS_mem l w hw) h
def parseF (l : List UInt8) : Stp × Int := if 5000 < l.length then (Stp.zero, 2) else if l = [] ∨ lineL (readP (splitS l)) ≠ l then (Stp.zero, 4) else (readP (splitS l), 0)
abbrev paR (p : Stp × Int) (u : Value) (A : As) : Prop := ∃ a c, u = .tuple #[.agg (stc p.1 a p.1.picks.length c).toArray, .int .i64 p.2] ∧ A = icA a p.1.picks.length c p.1.picks
theorem pa_bad {p : Stp × Int} {rb : Nat} {e : Int} {u : Value} (hp : p = (Stp.zero, e)) (H : Hq m M [] (L)) (hu : u = .tuple #[.agg (stc Stp.zero none 0 0).toArray, .int .i64 e]) : ∃ A, paR p u A ∧ A.p M ∧ Fr m M [] ∧ ∀ b ∈ A.fp, m b = none := by
  subst hp hu
  exact ⟨_, ⟨none, 0, rfl, rfl⟩, cn_end (H.nilRow T_int 1) rfl⟩
set_option maxHeartbeats 1000000 in
theorem parse_s {l : List UInt8} (hl : l.length ≤ 1000000) (hG : Gs m) : CN Tryz.prog n_shell_Parse [strV l] m (paR (parseF l)) := by
  by_cases hbig : 5000 < l.length
  · have hp : parseF l = (Stp.zero, 2) := if_pos hbig
    refine shell_Parse_go (by simp [Tryz.f33]) ?_
    have H := Hq.refl m []
    simp (disch := omega) only [go_sem, undef]
    refine newQ H fun rb M f H => ?_
    simp (disch := omega) only [go_sem, undef, rd_lenz_zb, dec_t (show (5000 : Int) < (l.length : Nat) by omega)]
    refine stwQ0 H rfl rfl fun M f H => ?_
    simp (disch := omega) only [go_sem, undef, H.cs]
    exact pa_bad (rb := rb) hp H rfl
  · have hfit := line_fit (l := l) (by omega)
    have hne := splitS_ne l
    have hsl := splitS_le l
    have hsm := splitS_mem l
    obtain ⟨w, ls, hs⟩ : ∃ w ls, splitS l = w :: ls := by
      cases h : splitS l with
      | nil => exact (hne h).elim
      | cons w ls => exact ⟨w, ls, rfl⟩
    have hpd : parseF l = if l = [] ∨ lineL (readP (w :: ls)) ≠ l then (Stp.zero, 4) else (readP (w :: ls), 0) := by
      unfold parseF; rw [if_neg hbig, hs]
    rw [hs] at hfit hsl hsm
    generalize hT : readP (w :: ls) = t at hpd hfit
    generalize parseF l = p at hpd ⊢
    refine shell_Parse_go (by simp [Tryz.f33]) ?_
    have H := Hq.refl m []
    simp (disch := omega) only [go_sem, undef]
    refine newQ H fun rb M f H => ?_
    simp (disch := omega) only [go_sem, undef, rd_lenz_zb, dec_f (show ¬ (5000 : Int) < (l.length : Nat) by omega)]
    refine callN H (split_s l hl M) fun v M A hA f H => ?_
    subst hA
    have hv := stA_rd H.hs.1
    rw [hs] at hv
    simp (disch := omega) only [go_sem, undef]
    refine callN H (hT ▸ read_s (hG.fr H.fr) hv (by simp only [List.length_cons] at hsl; omega) fun x hx => Nat.le_trans (hsm x hx) hl) fun u M A hA f H => ?_
    obtain ⟨a, c, rfl, rfl⟩ := hA
    simp (disch := omega) only [go_sem, undef]
    refine newQ H fun sb M f H => ?_
    simp (disch := omega) only [go_sem, undef]
    refine stwQ0 H rfl rfl fun M f H => ?_
    by_cases he : l = []
    · rw [if_pos (.inl he)] at hpd
      subst he
      simp (disch := omega) only [go_sem, undef, H.cs, decide_eq_true (show zb [] = (⟨#[]⟩ : ByteArray) from rfl)]
      refine stwQ3 H rfl rfl fun M f H => ?_
      simp (disch := omega) only [go_sem, undef, H.cs]
      exact pa_bad (rb := rb) hpd H rfl
    · have hp1 : RdS 1 ic M (.slice a t.picks.length c) t.picks := Own.rds (by omega) (fun _ => rfl) (H.at 1 rfl)
      simp (disch := omega) only [go_sem, undef, H.cs, decide_eq_false (show ¬ zb l = (⟨#[]⟩ : ByteArray) from fun h => he (zb_inj (h.trans rfl)))]
      refine callQ H (line_s (hG.fr H.fr) hfit hp1) fun M f H => ?_
      by_cases hq : lineL t = l
      · rw [if_neg (by rintro (h | h); exact he h; exact h hq)] at hpd
        subst hpd
        simp (disch := omega) only [go_sem, undef, H.cs, decide_eq_true (show zb (lineL t) = zb l from congrArg zb hq)]
        refine stwQ3 H rfl rfl fun M f H => ?_
        simp (disch := omega) only [go_sem, undef, H.cs]
        have H := H.tail
        exact ⟨_, ⟨a, c, rfl, rfl⟩, cn_end H rfl⟩
      · rw [if_pos (.inr hq)] at hpd
        simp (disch := omega) only [go_sem, undef, H.cs, decide_eq_false (show ¬ zb (lineL t) = zb l from fun h => hq (zb_inj h))]
        refine stwQ3 H rfl rfl fun M f H => ?_
        simp (disch := omega) only [go_sem, undef, H.cs]
        exact pa_bad (rb := rb) hpd H rfl
end Go.Fw
