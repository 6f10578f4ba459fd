import Derived.Test.YtpjecpkkcabnjaaGreatDoorSwG
set_option linter.unusedVariables false
set_option linter.unusedSimpArgs false
/-! A line's words, read into a step: the walk's beginning. -/
namespace Go.Fw
open Go.Proofs Go.Sh
variable {m m0 M : Mem} {S : List Nat} {L : List As}
theorem goT_step (os : List Nat) (s : Stp) (w : List UInt8) (l : List (List UInt8)) (o : Nat) : goT (o :: os) s (w :: l) = goT os (putZ s o (textL w)) l := rfl
theorem drop_cons {α : Type} {l : List α} {j : Nat} {x : α} (h : l[j]? = some x) : l.drop j = x :: l.drop (j + 1) := by
  obtain ⟨hj, e⟩ := List.getElem?_eq_some_iff.1 h
  rw [List.drop_eq_getElem_cons hj, e]
abbrev rdB : NC := .seq (.seq shell_read_r15
  (.cond (.slot 54)
    (.seq shell_read_r16
    (.block 4 (.loop [0, 2, 3, 56, 57, 58] shell_read_l2)))
    .skip)) rdC
theorem rd_b {E : Env} {t t' : Stp} {r : List (List UInt8)} {a : Option Addr} {c sb rb : Nat} (hG : Gs m) (hp : RdS 1 sc m (.slice a r.length c) r) (hr : r.length ≤ 100000) (hw : ∀ x ∈ r, x.length ≤ 1000000) (ht : t.picks = [])
    (he : ∀ q, q = (if t.kind = 1 then goT (tOf t.ck) t r else (t, r)) → t' = if t.kind = 8 then { q.1 with picks := q.2.map numV } else q.1)
    (e0 : E.get 0 = .slice a r.length c) (h0 : E.has 0 = true) (e2 : E.get 2 = .pointer (some ⟨rb, 0, none⟩)) (h2 : E.has 2 = true) (e3 : E.get 3 = .pointer (some ⟨sb, 0, none⟩)) (h3 : E.has 3 = true)
    (H : Hq m M [] [spA sb t none 0 0, zrA rb]) : wpN Tryz.prog rdB (retP shell_read_F.rvs (rdK (m := m) t')) E M := by
  have he := he _ rfl
  have key : ∀ E M (q : Stp × List (List UInt8)) a c, RdS 1 sc m (.slice a q.2.length c) q.2 → q.2.length ≤ 100000 → (∀ x ∈ q.2, x.length ≤ 1000000) → q.1.picks = [] → q.1.kind = t.kind → (t' = if t.kind = 8 then { q.1 with picks := q.2.map numV } else q.1) → E.get 0 = .slice a q.2.length c → E.has 0 = true → E.get 2 = .pointer (some ⟨rb, 0, none⟩) → E.has 2 = true → E.get 3 = .pointer (some ⟨sb, 0, none⟩) → E.has 3 = true → Hq m M [] [spA sb q.1 none 0 0, zrA rb] → wpN Tryz.prog rdC (retP shell_read_F.rvs (rdK (m := m) t')) E M :=
    fun E M q a c hp hr hw ht hk he e0 h0 e2 h2 e3 h3 H => rd_c hG hp hr hw ht (by rw [he]; simp only [hk]) e0 h0 e2 h2 e3 h3 H
  show wpN Tryz.prog (.seq (.seq shell_read_r15 (.cond (.slot 54) (.seq shell_read_r16 (.block 4 (.loop [0, 2, 3, 56, 57, 58] shell_read_l2))) .skip)) rdC) _ _ _
  generalize hC : rdC = C at key ⊢
  have htl : (tOf t.ck).length ≤ 3 := by unfold tOf; split; simp; split; simp; split <;> simp
  by_cases h1 : t.kind = 1
  · rw [if_pos h1] at he
    have hb : M sb = some (.cells (stc t none 0 0).toArray T_api_Step (0, 0)) := H.cs.1
    simp (disch := omega) only [go_sem, undef, e0, h0, e2, h2, e3, h3, H.cs, decide_eq_true h1]
    refine callN H (texts_s hb) fun tv M2 A hA f H => ?_
    subst hA
    have hr0 := ptA_rd H.hs.1
    obtain ⟨ta, tc, rfl⟩ := hr0.form
    clear hb hr0
    simp (disch := omega) only [go_sem, undef]
    refine loopQ_intro (fun k E m' => ∃ (j : Nat) (s : Stp) (l : List (List UInt8)) (a : Option Addr) (c : Nat), j ≤ (tOf t.ck).length ∧ k = (tOf t.ck).length - j ∧ goT (tOf t.ck) t r = goT ((tOf t.ck).drop j) s l ∧ RdS 1 sc m (.slice a l.length c) l ∧ l.length ≤ 100000 ∧ (∀ x ∈ l, x.length ≤ 1000000) ∧ E = [(0, .slice a l.length c), (2, .pointer (some ⟨rb, 0, none⟩)), (3, .pointer (some ⟨sb, 0, none⟩)), (56, .slice ta (tOf t.ck).length tc), (57, .int .i64 ((tOf t.ck).length : Nat)), (58, .int .i64 (j : Nat))] ∧ Hq m m' [] [ptA T_P_string sb (.slice ta (tOf t.ck).length tc) (tOf t.ck), spA sb s none 0 0, zrA rb]) (tOf t.ck).length rfl ⟨0, t, r, a, c, by omega, rfl, rfl, hp, hr, hw, ?_, H⟩ ?_
    · rfl
    clear H f hp hr hw e0 h0
    rintro k E M1 ⟨j, s, l, a, c, hj, rfl, hg, hp, hr, hw, rfl, H⟩
    by_cases hlt : j < (tOf t.ck).length
    · refine RdS.elK (ptA_rd (H.at 0 rfl)) hlt (by decide) fun bx o x hx hix hE => ?_
      have hx0 : (pcB sb x)[0]? = some (.pointer (some ⟨sb, x, none⟩)) := rfl
      have hxm := tOf_mem (List.mem_of_getElem? hx)
      rw [drop_cons hx] at hg
      cases l with
      | nil =>
        simp (disch := omega) only [go_sem, undef, dec_t (show ((j : Nat) : Int) < ((tOf t.ck).length : Nat) by omega), hix, hE.ld0, hx0]
        refine handN_intro ((tOf t.ck).length - (j + 1)) (by omega) ⟨j + 1, s, [], a, c, by omega, rfl, ?_, hp, hr, hw, rfl, H⟩
        rw [hg, goT_nil, goT_nil]
      | cons w l =>
        refine RdS.hdK hp fun bw ow a' c' k1 k2 k3 hp' => ?_
        have k2 := k2 M1 H.fr
        have hz : (stc s none 0 0)[x]? ≠ none := by rcases hxm with rfl | rfl | rfl | rfl <;> simp [stc]
        simp (disch := omega) only [go_sem, undef, dec_t (show ((j : Nat) : Int) < ((tOf t.ck).length : Nat) by omega), hix, hE.ld0, hx0, dec_t (show (0 : Int) < ((l.length : Nat) : Int) + 1 by omega), k1, k2, k3, List.length_cons]
        refine callQ H (text_s w (by have := hw w (List.mem_cons_self ..); omega) _) fun M f H => ?_
        have hset : (stc s none 0 0).set x (strV (textL w)) = stc (putZ s x (textL w)) none 0 0 := stc_putZ _ hxm
        simp (disch := omega) only [go_sem, undef, H.cs, hset]
        refine wrQ1 H fun M f H => ?_
        simp (disch := omega) only [go_sem, undef]
        refine handN_intro ((tOf t.ck).length - (j + 1)) (by omega) ⟨j + 1, putZ s x (textL w), l, a', c', by omega, rfl, ?_, hp', by have := hr; rw [List.length_cons] at this; omega, fun y hy => hw y (List.mem_cons_of_mem _ hy), rfl, H⟩
        rw [hg, goT_step]
    · have e : j = (tOf t.ck).length := by omega
      subst e
      rw [List.drop_length] at hg
      simp (disch := omega) only [go_sem, undef, dec_f (show ¬ (((tOf t.ck).length : Nat) : Int) < ((tOf t.ck).length : Nat) by omega)]
      have hk := goT_kind (tOf t.ck) t r
      have hg2 : goT (tOf t.ck) t r = (s, l) := hg
      rw [hg2] at he hk
      exact key _ _ (s, l) a c hp hr hw (hk.2.2.1.trans ht) hk.1 he rfl rfl rfl rfl rfl rfl (H.drop 0)
  · rw [if_neg h1] at he
    simp (disch := omega) only [go_sem, undef, e0, h0, e2, h2, e3, h3, H.cs, decide_eq_false h1]
    exact key _ _ (t, r) a c hp hr hw ht rfl he rfl rfl rfl rfl rfl rfl H
abbrev rdA0 : NC := .seq (.seq shell_read_r9
  (.block 2 (.loop [0, 2, 3, 34, 35, 36] shell_read_l1))) rdB
theorem goN_step (os : List Nat) (s : Stp) (w : List UInt8) (l : List (List UInt8)) (o : Nat) : goN (o :: os) s (w :: l) = goN os (putN s o (numV w)) l := rfl
theorem rd_a0 {E : Env} {t t' : Stp} {r : List (List UInt8)} {a : Option Addr} {c sb rb : Nat} (hG : Gs m) (hp : RdS 1 sc m (.slice a r.length c) r) (hr : r.length ≤ 100000) (hw : ∀ x ∈ r, x.length ≤ 1000000) (ht : t.picks = [])
    (he : ∀ p q, p = goN (nOf t.kind) t r → q = (if t.kind = 1 then goT (tOf t.ck) p.1 p.2 else p) → t' = if t.kind = 8 then { q.1 with picks := q.2.map numV } else q.1)
    (e0 : E.get 0 = .slice a r.length c) (h0 : E.has 0 = true) (e2 : E.get 2 = .pointer (some ⟨rb, 0, none⟩)) (h2 : E.has 2 = true) (e3 : E.get 3 = .pointer (some ⟨sb, 0, none⟩)) (h3 : E.has 3 = true)
    (H : Hq m M [] [spA sb t none 0 0, zrA rb]) : wpN Tryz.prog rdA0 (retP shell_read_F.rvs (rdK (m := m) t')) E M := by
  have he := fun q => he _ q rfl
  have key : ∀ E M (p : Stp × List (List UInt8)) a c, p = goN (nOf t.kind) t r → RdS 1 sc m (.slice a p.2.length c) p.2 → p.2.length ≤ 100000 → (∀ x ∈ p.2, x.length ≤ 1000000) → E.get 0 = .slice a p.2.length c → E.has 0 = true → E.get 2 = .pointer (some ⟨rb, 0, none⟩) → E.has 2 = true → E.get 3 = .pointer (some ⟨sb, 0, none⟩) → E.has 3 = true → Hq m M [] [spA sb p.1 none 0 0, zrA rb] → wpN Tryz.prog rdB (retP shell_read_F.rvs (rdK (m := m) t')) E M := by
    intro E M p a c e hp hr hw e0 h0 e2 h2 e3 h3 H
    have hk := goN_kind (nOf t.kind) t r
    rw [← e] at hk he
    refine rd_b hG hp hr hw (hk.2.2.1.trans ht) (fun q hq => ?_) e0 h0 e2 h2 e3 h3 H
    have := he q (by rw [hq]; simp only [hk])
    rw [this]
    simp only [hk]
  show wpN Tryz.prog (.seq (.seq shell_read_r9 (.block 2 (.loop [0, 2, 3, 34, 35, 36] shell_read_l1))) rdB) _ _ _
  generalize hC : rdB = C at key ⊢
  have htl : (nOf t.kind).length ≤ 2 := by unfold nOf; split; simp; split <;> simp
  have hb : M sb = some (.cells (stc t none 0 0).toArray T_api_Step (0, 0)) := H.cs.1
  simp (disch := omega) only [go_sem, undef, e0, h0, e2, h2, e3, h3, H.cs]
  refine callN H (numbers_s hb) fun tv M2 A hA f H => ?_
  subst hA
  have hr0 := ptA_rd H.hs.1
  obtain ⟨ta, tc, rfl⟩ := hr0.form
  clear hb hr0
  simp (disch := omega) only [go_sem, undef]
  refine loopQ_intro (fun k E m' => ∃ (j : Nat) (s : Stp) (l : List (List UInt8)) (a : Option Addr) (c : Nat), j ≤ (nOf t.kind).length ∧ k = (nOf t.kind).length - j ∧ goN (nOf t.kind) t r = goN ((nOf t.kind).drop j) s l ∧ RdS 1 sc m (.slice a l.length c) l ∧ l.length ≤ 100000 ∧ (∀ x ∈ l, x.length ≤ 1000000) ∧ E = [(0, .slice a l.length c), (2, .pointer (some ⟨rb, 0, none⟩)), (3, .pointer (some ⟨sb, 0, none⟩)), (34, .slice ta (nOf t.kind).length tc), (35, .int .i64 ((nOf t.kind).length : Nat)), (36, .int .i64 (j : Nat))] ∧ Hq m m' [] [ptA T_P_int sb (.slice ta (nOf t.kind).length tc) (nOf t.kind), spA sb s none 0 0, zrA rb]) (nOf t.kind).length rfl ⟨0, t, r, a, c, by omega, rfl, rfl, hp, hr, hw, ?_, H⟩ ?_
  · rw [e0, e2, e3]; rfl
  clear H f hp hr hw e0 h0
  rintro k E M1 ⟨j, s, l, a, c, hj, rfl, hg, hp, hr, hw, rfl, H⟩
  by_cases hlt : j < (nOf t.kind).length
  · refine RdS.elK (ptA_rd (H.at 0 rfl)) hlt (by decide) fun bx o x hx hix hE => ?_
    have hx0 : (pcB sb x)[0]? = some (.pointer (some ⟨sb, x, none⟩)) := rfl
    have hxm := nOf_mem (List.mem_of_getElem? hx)
    rw [drop_cons hx] at hg
    cases l with
    | nil =>
      simp (disch := omega) only [go_sem, undef, dec_t (show ((j : Nat) : Int) < ((nOf t.kind).length : Nat) by omega), hix, hE.ld0, hx0]
      refine handN_intro ((nOf t.kind).length - (j + 1)) (by omega) ⟨j + 1, s, [], a, c, by omega, rfl, ?_, hp, hr, hw, rfl, H⟩
      rw [hg, goN_nil, goN_nil]
    | cons w l =>
      refine RdS.hdK hp fun bw ow a' c' k1 k2 k3 hp' => ?_
      have k2 := k2 M1 H.fr
      simp (disch := omega) only [go_sem, undef, dec_t (show ((j : Nat) : Int) < ((nOf t.kind).length : Nat) by omega), hix, hE.ld0, hx0, dec_t (show (0 : Int) < ((l.length : Nat) : Int) + 1 by omega), k1, k2, k3, List.length_cons]
      refine callQ H (number_s w (by have := hw w (List.mem_cons_self ..); omega) (hG.fr H.fr)) fun M f H => ?_
      have hset : (stc s none 0 0).set x (.int .i64 (numV w)) = stc (putN s x (numV w)) none 0 0 := stc_putN _ hxm
      simp (disch := omega) only [go_sem, undef, H.cs, hset]
      refine wrQ1 H fun M f H => ?_
      simp (disch := omega) only [go_sem, undef]
      refine handN_intro ((nOf t.kind).length - (j + 1)) (by omega) ⟨j + 1, putN s x (numV w), l, a', c', by omega, rfl, ?_, hp', by have := hr; rw [List.length_cons] at this; omega, fun y hy => hw y (List.mem_cons_of_mem _ hy), rfl, H⟩
      rw [hg, goN_step]
  · have e : j = (nOf t.kind).length := by omega
    subst e
    rw [List.drop_length] at hg
    simp (disch := omega) only [go_sem, undef, dec_f (show ¬ (((nOf t.kind).length : Nat) : Int) < ((nOf t.kind).length : Nat) by omega)]
    exact key _ _ (s, l) a c (show (s, l) = _ from hg.symm) hp hr hw rfl rfl rfl rfl rfl rfl (H.drop 0)
theorem read_s {v : Value} {w : List UInt8} {ls : List (List UInt8)} (hG : Gs m) (h : RdS 1 sc m v (w :: ls)) (hl : ls.length ≤ 100000) (hw : ∀ x ∈ w :: ls, x.length ≤ 1000000) :
    CN Tryz.prog n_shell_read [v] m (rdR (readP (w :: ls))) := by
  obtain ⟨a, c, rfl⟩ := h.form
  refine shell_read_go (by simp [Tryz.f33]) ?_
  have key : ∀ E M sb rb a' c', RdS 1 sc m (.slice a' ls.length c') ls → E.get 0 = .slice a' ls.length c' → E.has 0 = true → E.get 2 = .pointer (some ⟨rb, 0, none⟩) → E.has 2 = true → E.get 3 = .pointer (some ⟨sb, 0, none⟩) → E.has 3 = true → Hq m M [] [spA sb { Stp.zero with kind := (kindOf w).1, ck := (kindOf w).2 } none 0 0, zrA rb] → wpN Tryz.prog rdA0 (retP shell_read_F.rvs (rdK (m := m) (readP (w :: ls)))) E M := by
    intro E M sb rb a' c' hp e0 h0 e2 h2 e3 h3 H
    refine rd_a0 hG hp hl (fun x hx => hw x (List.mem_cons_of_mem _ hx)) rfl (fun p q h1 h2 => ?_) e0 h0 e2 h2 e3 h3 H
    subst h1 h2
    rfl
  show wpN Tryz.prog (.seq shell_read_r0 (.seq shell_read_r1 (.seq (.seq shell_read_r2 (.block 0 (.loop [0, 2, 3, 12, 13, 14] shell_read_l0))) (.seq shell_read_r8 rdA0)))) _ _ _
  generalize hC : rdA0 = C at key ⊢
  have H := Hq.refl m []
  simp (disch := omega) only [go_sem, undef]
  refine newQ H fun rb M f H => ?_
  simp (disch := omega) only [go_sem, undef]
  refine newQ H fun sb M f H => ?_
  simp (disch := omega) only [go_sem, undef]
  refine callN H (kinds_s M) fun kv M2 A hA f H => ?_
  subst hA
  have hr := kdA_rd H.hs.1
  obtain ⟨ka, kcap, rfl⟩ := hr.form
  clear hr f
  have hkl : kindsL.length = 13 := rfl
  simp (disch := omega) only [go_sem, undef]
  refine loopQ_intro (fun k E m' => ∃ (j : Nat), j ≤ kindsL.length ∧ k = kindsL.length - j ∧ E = [(0, .slice a (w :: ls).length c), (2, .pointer (some ⟨rb, 0, none⟩)), (3, .pointer (some ⟨sb, 0, none⟩)), (12, .slice ka kindsL.length kcap), (13, .int .i64 (kindsL.length : Nat)), (14, .int .i64 (j : Nat))] ∧ Hq m m' [] [kdA (.slice ka kindsL.length kcap), spA sb { Stp.zero with kind := ((kindsL.take j).foldl (kdF w) (0, 0)).1, ck := ((kindsL.take j).foldl (kdF w) (0, 0)).2 } none 0 0, zrA rb]) kindsL.length rfl ⟨0, by omega, rfl, rfl, H⟩ ?_
  clear H
  rintro k E M1 ⟨j, hj, rfl, rfl, H⟩
  refine RdS.hdK h fun bw ow a' c' k1 k2 k3 hp' => ?_
  by_cases hlt : j < kindsL.length
  · refine RdS.elK (kdA_rd (H.at 0 rfl)) hlt (by decide) fun bx o x hx hix hE => ?_
    have htk : kindsL.take (j + 1) = kindsL.take j ++ [x] := by rw [List.take_add_one, hx]; rfl
    have hfd : (kindsL.take (j + 1)).foldl (kdF w) (0, 0) = kdF w ((kindsL.take j).foldl (kdF w) (0, 0)) x := by rw [htk, List.foldl_append]; rfl
    generalize (kindsL.take j).foldl (kdF w) (0, 0) = p at H hfd
    simp (disch := omega) only [go_sem, undef, dec_t (show ((j : Nat) : Int) < (kindsL.length : Nat) by omega), hix, hE.lda0, List.length_cons]
    refine newQ H fun b M f H => ?_
    simp (disch := omega) only [go_sem, undef]
    refine stwQ0 H rfl rfl fun M f H => ?_
    have k2 := k2 M H.fr
    by_cases hxw : x.1 = w
    · simp (disch := omega) only [go_sem, undef, H.cs, k1, k2, decide_eq_true (show zb x.1 = zb w from congrArg zb hxw)]
      refine wrQ2 H fun M f H => ?_
      simp (disch := omega) only [go_sem, undef, H.cs]
      refine wrQ2 H fun M f H => ?_
      simp (disch := omega) only [go_sem, undef]
      refine handN_intro (kindsL.length - (j + 1)) (by omega) ⟨j + 1, by omega, rfl, rfl, ?_⟩
      rw [hfd, show kdF w p x = x.2 from if_pos hxw]
      exact H.drop 0
    · simp (disch := omega) only [go_sem, undef, H.cs, k1, k2, decide_eq_false (show ¬ zb x.1 = zb w from fun h => hxw (zb_inj h))]
      refine handN_intro (kindsL.length - (j + 1)) (by omega) ⟨j + 1, by omega, rfl, rfl, ?_⟩
      rw [hfd, show kdF w p x = p from if_neg hxw]
      exact H.drop 0
  · have e : j = kindsL.length := by omega
    subst e
    rw [List.take_length, kd_fold] at H
    simp (disch := omega) only [go_sem, undef, dec_f (show ¬ ((kindsL.length : Nat) : Int) < (kindsL.length : Nat) by omega), List.length_cons, k3]
    exact key _ _ sb rb a' c' hp' rfl rfl rfl rfl rfl rfl (H.drop 0)
end Go.Fw
