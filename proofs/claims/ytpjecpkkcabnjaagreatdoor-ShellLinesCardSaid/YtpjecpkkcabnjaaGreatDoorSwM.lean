import Derived.Test.YtpjecpkkcabnjaaGreatDoorSwL
set_option linter.unusedVariables false
set_option linter.unusedSimpArgs false
/-! The law, walked. -/
namespace Go.Fw
open Go.Proofs Go.Sh
variable {m m0 M : Mem} {S : List Nat} {L : List As}
theorem parse_cases (l : List UInt8) : (∃ e, parseF l = (Stp.zero, e) ∧ e ≠ 0) ∨ (∃ t, parseF l = (t, 0) ∧ lineL t = l ∧ Fit t) := by
  unfold parseF
  split
  · exact .inl ⟨2, rfl, by decide⟩
  · rename_i h
    split
    · exact .inl ⟨4, rfl, by decide⟩
    · rename_i h2
      refine .inr ⟨_, rfl, ?_, line_fit (by omega)⟩
      rcases Decidable.em (lineL (readP (splitS l)) = l) with h3 | h3
      · exact h3
      · exact (h2 (.inr h3)).elim
theorem parse_back {s : Stp} (ok : s.ok) (hne : lineL s ≠ []) (hl : (lineL s).length ≤ 5000) : parseF (lineL s) = (toldL s, 0) := by
  obtain ⟨nm, hnm⟩ : ∃ nm, nameOf s = some nm := by
    cases h : nameOf s with
    | none => exact (hne (by unfold lineL; rw [h])).elim
    | some nm => exact ⟨nm, rfl⟩
  have hb : readP (splitS (lineL s)) = toldL s := by rw [readP_eq]; exact line_back hnm ok
  unfold parseF
  rw [if_neg (by omega), hb, if_neg]
  rintro (h | h)
  · exact hne h
  · exact h (told_line s)
abbrev runsMC : Prop := ∀ M, Gs M → MC Tryz.prog n_law29_ShellRuns [] M fun v M' => v = .bool true ∧ Fr M M' []
abbrev slT : NC := .seq (.seq law29_ShellLines_r10
  (.cond (.slot 53)
    (.seq law29_ShellLines_r11
    .ret)
    .skip))
  (.seq law29_ShellLines_r12
  (.seq (.seq law29_ShellLines_r13
  (.cond (.slot 61)
    (.seq law29_ShellLines_r14
    .ret)
    .skip))
  (.seq law29_ShellLines_r15
  .ret)))
set_option maxHeartbeats 4000000 in
theorem sl_tail {E : Env} {l : List UInt8} (hR : runsMC) (hG : Gs m) (hl : l.length ≤ 2000) (e1 : E.get 1 = strV l) (h1 : E.has 1 = true) (H : Hq m M [] []) :
    wpN Tryz.prog slT (retP law29_ShellLines_F.rvs fun v M => v = .bool true ∧ Fr m M []) E M := by
  rcases parse_cases l with ⟨e, hp, he⟩ | ⟨t, hp, ht, hfit⟩
  · simp (disch := omega) only [go_sem, undef, e1, h1]
    refine callR H (names_s (by omega) _) fun v M hv f H => ?_
    obtain ⟨b, rfl⟩ := hv
    cases b with
    | true =>
      simp (disch := omega) only [go_sem, undef]
      refine callQ H (hR _ (hG.fr H.fr)) fun M f H => ?_
      simp (disch := omega) only [go_sem, undef]
      exact ⟨rfl, H.fr⟩
    | false =>
      have hps := parse_s (m := M) (l := l) (by omega) (hG.fr H.fr)
      rw [hp] at hps
      simp (disch := omega) only [go_sem, undef, e1, h1]
      refine callN H hps fun u M A hA f H => ?_
      obtain ⟨a, c, rfl, rfl⟩ := hA
      simp (disch := omega) only [go_sem, undef]
      refine newQ H fun b M f H => ?_
      simp (disch := omega) only [go_sem, undef]
      refine stwQ0 H rfl rfl fun M f H => ?_
      have r1 : RdS 1 ic M (.slice a Stp.zero.picks.length c) Stp.zero.picks := Own.rds (by omega) (fun _ => rfl) (H.at 1 rfl)
      simp (disch := omega) only [go_sem, undef, H.cs, decide_eq_false he]
      refine callQ H (same_s (s := Stp.zero) (a := a) (c := c) (b := none) (d := 0) r1 (RdS.nil (enc := ic) (fun _ => rfl) _) (by decide)) fun M f H => ?_
      simp (disch := omega) only [go_sem, undef]
      refine callQ H (hR _ (hG.fr H.fr)) fun M f H => ?_
      simp (disch := omega) only [go_sem, undef]
      exact ⟨rfl, H.fr⟩
  · simp (disch := omega) only [go_sem, undef, e1, h1]
    refine callR H (names_s (by omega) _) fun v M hv f H => ?_
    obtain ⟨b, rfl⟩ := hv
    cases b with
    | true =>
      simp (disch := omega) only [go_sem, undef]
      refine callQ H (hR _ (hG.fr H.fr)) fun M f H => ?_
      simp (disch := omega) only [go_sem, undef]
      exact ⟨rfl, H.fr⟩
    | false =>
      have hps := parse_s (m := M) (l := l) (by omega) (hG.fr H.fr)
      rw [hp] at hps
      simp (disch := omega) only [go_sem, undef, e1, h1]
      refine callN H hps fun u M A hA f H => ?_
      obtain ⟨a, c, rfl, rfl⟩ := hA
      simp (disch := omega) only [go_sem, undef]
      refine newQ H fun b M f H => ?_
      simp (disch := omega) only [go_sem, undef]
      refine stwQ0 H rfl rfl fun M f H => ?_
      have r1 : RdS 1 ic M (.slice a t.picks.length c) t.picks := Own.rds (by omega) (fun _ => rfl) (H.at 1 rfl)
      simp (disch := omega) only [go_sem, undef, H.cs, decide_eq_true (show (0 : Int) = 0 from rfl)]
      refine callQ H (line_s (hG.fr H.fr) hfit r1) fun M f H => ?_
      simp (disch := omega) only [go_sem, undef, ht, decide_eq_true (show zb l = zb l from rfl)]
      refine callQ H (hR _ (hG.fr H.fr)) fun M f H => ?_
      simp (disch := omega) only [go_sem, undef]
      exact ⟨rfl, H.fr⟩
theorem told_picks {s : Stp} {a : Option Addr} {c : Nat} (hp : RdS 1 ic m (.slice a s.picks.length c) s.picks) : tpN s s.picks.length = (toldL s).picks.length ∧ RdS 1 ic m (.slice (tpA s a) (toldL s).picks.length (tpN s c)) (toldL s).picks := by
  unfold tpA tpN toldL
  by_cases h8 : s.kind = 8
  · have h1 : ¬ s.kind = 1 := by omega
    rw [if_neg h1, if_pos h8, if_pos h8, if_pos h8]
    simp only [if_pos h8]
    exact ⟨trivial, hp⟩
  · by_cases h1 : s.kind = 1
    · simp only [if_pos h1, if_neg h8]
      exact ⟨rfl, RdS.nil (enc := ic) (fun _ => rfl) _⟩
    · simp only [if_neg h1, if_neg h8]
      exact ⟨rfl, RdS.nil (enc := ic) (fun _ => rfl) _⟩
theorem light_fit {s : Stp} (ok : s.ok) (h : s.key.length + s.fin.length + s.old.length + s.val.length + s.picks.length < 1000) : Fit s := ⟨ok, by omega, by omega, by omega, by omega, by omega⟩
theorem fm_le (n : Nat) : ∀ l : List (List UInt8), (∀ x ∈ l, x.length ≤ n) → (l.flatMap (fun x => (32 : UInt8) :: x)).length ≤ l.length * (n + 1)
  | [], _ => by simp
  | x :: l, h => by
    have := fm_le n l fun y hy => h y (List.mem_cons_of_mem _ hy)
    have := h x (List.mem_cons_self ..)
    rw [List.flatMap_cons, List.length_append, List.length_cons, List.length_cons, Nat.succ_mul]; omega
theorem light_line {s : Stp} (ok : s.ok) (h : s.key.length + s.fin.length + s.old.length + s.val.length + s.picks.length < 1000) (h50 : s.picks.length ≤ 50) : (lineL s).length ≤ 5000 := by
  cases hn : nameOf s with
  | none => unfold lineL; rw [hn]; simp
  | some nm =>
    have h5 := (name_nosp hn).2.1
    have i1 := itoa_le s.n ok.n
    have i2 := itoa_le s.count ok.count
    have i3 := itoa_le s.client ok.client
    have w1 := wordL_len s.key
    have w2 := wordL_len s.fin
    have w3 := wordL_len s.old
    have w4 := wordL_len s.val
    rw [lineL_fm hn, List.length_append]
    have key : ((restL s).flatMap (fun x => (32 : UInt8) :: x)).length ≤ 4900 := by
      have hnum : (((numsL s).map Lib.itoa).flatMap (fun x => (32 : UInt8) :: x)).length ≤ 44 := by
        unfold numsL; split
        · simp; omega
        · split <;> simp <;> omega
      have htx : (((txtsL s).map wordL).flatMap (fun x => (32 : UInt8) :: x)).length ≤ 3100 := by
        unfold txtsL; split
        · simp; omega
        · split
          · simp; omega
          · split <;> simp <;> omega
      have hpk : ((s.picks.map Lib.itoa).flatMap (fun x => (32 : UInt8) :: x)).length ≤ 1100 := by
        refine Nat.le_trans (fm_le 21 _ fun x hx => ?_) ?_
        · obtain ⟨n, h1, rfl⟩ := List.mem_map.1 hx
          exact itoa_le n (ok.picks n h1)
        · rw [List.length_map]; omega
      unfold restL
      rw [List.flatMap_append, List.flatMap_append, List.length_append, List.length_append]
      split <;> split <;> (try simp only [List.flatMap_nil, List.length_nil]) <;> omega
    omega
abbrev slM : NC := .seq (.seq law29_ShellLines_r3
  (.cond (.slot 27)
    (.seq law29_ShellLines_r4
    (.seq (.seq law29_ShellLines_r5
    (.cond (.slot 33)
      (.seq law29_ShellLines_r6
      .ret)
      .skip))
    (.seq law29_ShellLines_r7
    (.seq law29_ShellLines_r8
    (.cond (.slot 51)
      (.seq law29_ShellLines_r9
      .ret)
      .skip)))))
    .skip)) slT
set_option maxHeartbeats 8000000 in
theorem sl_mid {E : Env} {s : Stp} {a : Option Addr} {c b0 : Nat} {l : List UInt8} (hR : runsMC) (hG : Gs m) (ok : s.ok) (hL : Len s) (hp : RdS 1 ic m (.slice a s.picks.length c) s.picks) (hpl : s.picks.length ≤ 281474976710656) (hl : l.length ≤ 2000) (e1 : E.get 1 = strV l) (h1 : E.has 1 = true)
    (e2 : E.get 2 = .pointer (some ⟨b0, 0, none⟩)) (h2 : E.has 2 = true) (H : Hq m M [] [spA b0 s a s.picks.length c]) :
    wpN Tryz.prog slM (retP law29_ShellLines_F.rvs fun v M => v = .bool true ∧ Fr m M []) E M := by
  have key : ∀ E M, E.get 1 = strV l → E.has 1 = true → Hq m M [] [] → wpN Tryz.prog slT (retP law29_ShellLines_F.rvs fun v M => v = .bool true ∧ Fr m M []) E M := fun E M e1 h1 H => sl_tail hR hG hl e1 h1 H
  show wpN Tryz.prog (.seq (.seq law29_ShellLines_r3 (.cond (.slot 27) (.seq law29_ShellLines_r4 (.seq (.seq law29_ShellLines_r5 (.cond (.slot 33) (.seq law29_ShellLines_r6 .ret) .skip)) (.seq law29_ShellLines_r7 (.seq law29_ShellLines_r8 (.cond (.slot 51) (.seq law29_ShellLines_r9 .ret) .skip))))) .skip)) slT) _ _ _
  generalize hC : slT = C at key ⊢
  by_cases hlt : s.key.length + s.fin.length + s.old.length + s.val.length + s.picks.length < 1000
  · by_cases h50 : s.picks.length ≤ 50
    · have hfit := light_fit ok hlt
      have hll := light_line ok hlt h50
      have hlm := light_s (a := a) (c := c) hL hpl M
      rw [decide_eq_true hlt] at hlm
      simp (disch := omega) only [go_sem, undef, e1, h1, e2, h2, H.cs]
      refine callQ H hlm fun M f H => ?_
      simp (disch := omega) only [go_sem, undef, e1, h1, e2, h2, H.cs, decide_eq_true (show ((s.picks.length : Nat) : Int) ≤ 50 by omega)]
      refine callR H (edge_s (hp.frame H.fr) (by omega)) fun v M hv f H => ?_
      obtain ⟨b, rfl⟩ := hv
      cases b with
      | true =>
        simp (disch := omega) only [go_sem, undef, e1, h1, e2, h2, H.cs]
        exact key _ _ rfl rfl (H.drop 0)
      | false =>
        simp (disch := omega) only [go_sem, undef, e1, h1, e2, h2, H.cs]
        refine callQ H (line_s (hG.fr H.fr) hfit (hp.frame H.fr)) fun M f H => ?_
        simp (disch := omega) only [go_sem, undef, e1, h1, e2, h2, H.cs]
        refine callQ H (lline_s (hG.fr H.fr) hfit (hp.frame H.fr)) fun M f H => ?_
        by_cases hne : lineL s = []
        · have hps := parse_s (m := M) (l := lineL s) (by omega) (hG.fr H.fr)
          simp (disch := omega) only [go_sem, undef, e1, h1, e2, h2, H.cs, decide_eq_true (show zb (lineL s) = zb (lineL s) from rfl)]
          refine callN H hps fun u M A hA f H => ?_
          obtain ⟨a', c', rfl, rfl⟩ := hA
          simp (disch := omega) only [go_sem, undef]
          refine newQ H fun b M f H => ?_
          simp (disch := omega) only [go_sem, undef]
          refine stwQ0 H rfl rfl fun M f H => ?_
          simp (disch := omega) only [go_sem, undef, H.cs, decide_eq_true (show zb (lineL s) = (⟨#[]⟩ : ByteArray) from by rw [hne]; rfl)]
          exact key _ _ rfl rfl (((H.drop 0).drop 0).drop 0)
        · have hps := parse_s (m := M) (l := lineL s) (by omega) (hG.fr H.fr)
          rw [parse_back ok hne hll] at hps
          simp (disch := omega) only [go_sem, undef, e1, h1, e2, h2, H.cs, decide_eq_true (show zb (lineL s) = zb (lineL s) from rfl)]
          refine callN H hps fun u M A hA f H => ?_
          obtain ⟨a', c', rfl, rfl⟩ := hA
          simp (disch := omega) only [go_sem, undef]
          refine newQ H fun b M f H => ?_
          simp (disch := omega) only [go_sem, undef]
          refine stwQ0 H rfl rfl fun M f H => ?_
          have tp := told_picks (hp.frame H.fr)
          simp (disch := omega) only [go_sem, undef, H.cs, decide_eq_false (show ¬ zb (lineL s) = (⟨#[]⟩ : ByteArray) from fun h => hne (zb_inj (h.trans rfl))), decide_eq_true (show (0 : Int) = 0 from rfl)]
          have hts := told_s (s := s) (a := a) (n := s.picks.length) (c := c) M
          rw [tp.1] at hts
          refine callQ H hts fun M f H => ?_
          have r1 : RdS 1 ic M (.slice a' (toldL s).picks.length c') (toldL s).picks := Own.rds (by omega) (fun _ => rfl) (H.at 1 rfl)
          have r2 := (told_picks (hp.frame H.fr)).2
          have htl : (toldL s).picks.length ≤ 1000000 := by rw [← tp.1]; unfold tpN; split <;> omega
          simp (disch := omega) only [go_sem, undef, H.cs]
          refine callQ H (same_s r1 r2 htl) fun M f H => ?_
          simp (disch := omega) only [go_sem, undef]
          exact key _ _ rfl rfl (((H.drop 0).drop 0).drop 0)
    · have hlm := light_s (a := a) (c := c) hL hpl M
      rw [decide_eq_true hlt] at hlm
      simp (disch := omega) only [go_sem, undef, e1, h1, e2, h2, H.cs]
      refine callQ H hlm fun M f H => ?_
      simp (disch := omega) only [go_sem, undef, e1, h1, e2, h2, H.cs, decide_eq_false (show ¬ ((s.picks.length : Nat) : Int) ≤ 50 by omega)]
      exact key _ _ rfl rfl (H.drop 0)
  · have hlm := light_s (a := a) (c := c) hL hpl M
    rw [decide_eq_false hlt] at hlm
    simp (disch := omega) only [go_sem, undef, e1, h1, e2, h2, H.cs]
    refine callQ H hlm fun M f H => ?_
    simp (disch := omega) only [go_sem, undef, e1, h1, e2, h2, H.cs]
    exact key _ _ rfl rfl (H.drop 0)
theorem sl_s {s : Stp} {a : Option Addr} {c : Nat} {l : List UInt8} (hR : runsMC) (hG : Gs m) (ok : s.ok) (hL : Len s) (hp : RdS 1 ic m (.slice a s.picks.length c) s.picks) (hpl : s.picks.length ≤ 281474976710656) (hl : l.length ≤ 281474976710656) :
    MC Tryz.prog n_law29_ShellLines [.agg (stc s a s.picks.length c).toArray, strV l] m fun v M => v = .bool true ∧ Fr m M [] := by
  have key : ∀ E M l b0, l.length ≤ 2000 → E.get 1 = strV l → E.has 1 = true → E.get 2 = .pointer (some ⟨b0, 0, none⟩) → E.has 2 = true → Hq m M [] [spA b0 s a s.picks.length c] → wpN Tryz.prog slM (retP law29_ShellLines_F.rvs fun v M => v = .bool true ∧ Fr m M []) E M := fun E M l b0 hl e1 h1 e2 h2 H => sl_mid hR hG ok hL hp hpl hl e1 h1 e2 h2 H
  refine law29_ShellLines_go (by simp [Tryz.f33]) ?_
  show wpN Tryz.prog (.seq law29_ShellLines_r0 (.seq (.seq law29_ShellLines_r1 (.cond (.slot 12) law29_ShellLines_r2 .skip)) slM)) _ _ _
  generalize hC : slM = C at key ⊢
  have H := Hq.refl m []
  by_cases hb : 2000 < l.length
  · simp (disch := omega) only [go_sem, undef]
    refine newQ H fun b0 M f H => ?_
    simp (disch := omega) only [go_sem, undef, rd_lenz_zb, dec_t (show (2000 : Int) < (l.length : Nat) by omega), rd_slcs_hi (l := l) (i := 2000) (n := 2000) rfl (by omega)]
    exact key _ _ (l.take 2000) b0 (by rw [List.length_take]; omega) rfl rfl rfl rfl H
  · simp (disch := omega) only [go_sem, undef]
    refine newQ H fun b0 M f H => ?_
    simp (disch := omega) only [go_sem, undef, rd_lenz_zb, dec_f (show ¬ (2000 : Int) < (l.length : Nat) by omega)]
    exact key _ _ l b0 (by omega) rfl rfl rfl rfl H
end Go.Fw
