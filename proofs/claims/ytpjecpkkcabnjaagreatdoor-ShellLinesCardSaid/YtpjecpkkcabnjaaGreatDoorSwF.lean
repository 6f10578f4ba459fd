import Derived.Test.YtpjecpkkcabnjaaGreatDoorSwE
set_option linter.unusedVariables false
set_option linter.unusedSimpArgs false
/-! A step's line. -/
namespace Go.Fw
open Go.Proofs Go.Sh
variable {m m0 M : Mem} {S : List Nat} {L : List As}
theorem join_le (K : Nat) : ∀ (ws : List (List UInt8)), (∀ w ∈ ws, w.length ≤ K) → (Lib.join ws [32]).length ≤ ws.length * (K + 1)
  | [], _ => by simp [Lib.join]
  | [w], h => by rw [Lib.join_one]; have := h w (List.mem_cons_self ..); simp; omega
  | w :: x :: r, h => by
    have ih := join_le K (x :: r) fun y hy => h y (List.mem_cons_of_mem _ hy)
    have h0 := h w (List.mem_cons_self ..)
    have : Lib.join (w :: x :: r) [32] = w ++ 32 :: Lib.join (x :: r) [32] := by rw [Lib.join_cons, Lib.join_cons]; simp [Lib.joinTail]
    have e : (w :: x :: r).length * (K + 1) = (x :: r).length * (K + 1) + (K + 1) := by rw [List.length_cons, Nat.succ_mul]
    rw [this, List.length_append, List.length_cons, e]
    omega
/-- steps that are not too large -/
structure Fit (s : Stp) : Prop where
  ok : s.ok
  key : s.key.length ≤ 5000
  fin : s.fin.length ≤ 5000
  old : s.old.length ≤ 5000
  val : s.val.length ≤ 5000
  picks : s.picks.length ≤ 5001
theorem itoa_le (n : Int) (h : I64 n) : (Lib.itoa n).length ≤ 21 := Lib.itoa_length_le n h.1 h.2
theorem rest_le {s : Stp} (h : Fit s) : (∀ w ∈ restL s, w.length ≤ 15001) ∧ (restL s).length ≤ 5006 := by
  have hn : ∀ n ∈ numsL s, I64 n := by
    intro n hn
    unfold numsL at hn
    split at hn
    · simp only [List.mem_cons, List.not_mem_nil, or_false] at hn
      rcases hn with rfl | rfl; exact h.ok.client; exact h.ok.n
    · split at hn
      · simp only [List.mem_cons, List.not_mem_nil, or_false] at hn
        rcases hn with rfl | rfl; exact h.ok.n; exact h.ok.count
      · simp only [List.mem_cons, List.not_mem_nil, or_false] at hn
        subst hn; exact h.ok.n
  have hnl : (numsL s).length ≤ 2 := by unfold numsL; split; simp; split <;> simp
  have ht : ∀ t ∈ txtsL s, t.length ≤ 5000 := by
    intro t ht
    unfold txtsL at ht
    split at ht
    · simp only [List.mem_cons, List.not_mem_nil, or_false] at ht
      rcases ht with rfl | rfl; exact h.key; exact h.val
    · split at ht
      · simp only [List.mem_cons, List.not_mem_nil, or_false] at ht
        rcases ht with rfl | rfl | rfl; exact h.key; exact h.old; exact h.val
      · split at ht
        · simp only [List.mem_cons, List.not_mem_nil, or_false] at ht
          rcases ht with rfl | rfl; exact h.key; exact h.fin
        · simp only [List.mem_cons, List.not_mem_nil, or_false] at ht
          subst ht; exact h.key
  have htl : (txtsL s).length ≤ 3 := by unfold txtsL; split; simp; split; simp; split <;> simp
  constructor
  · intro w hw
    unfold restL at hw
    rcases List.mem_append.1 hw with hw | hw
    · obtain ⟨n, h1, rfl⟩ := List.mem_map.1 hw
      exact Nat.le_trans (itoa_le n (hn n h1)) (by omega)
    · rcases List.mem_append.1 hw with hw | hw
      · split at hw
        · obtain ⟨t, h1, rfl⟩ := List.mem_map.1 hw
          have := wordL_len t
          have := ht t h1
          omega
        · cases hw
      · split at hw
        · obtain ⟨n, h1, rfl⟩ := List.mem_map.1 hw
          exact Nat.le_trans (itoa_le n (h.ok.picks n h1)) (by omega)
        · cases hw
  · unfold restL
    have := h.picks
    rw [List.length_append, List.length_append, List.length_map]
    split <;> split <;> simp <;> omega
theorem nOf_at {s : Stp} {a : Option Addr} {n c j o : Nat} (h : (nOf s.kind)[j]? = some o) : ∃ x, (numsL s)[j]? = some x ∧ (stc s a n c)[o]? = some (.int .i64 x) := by
  unfold nOf at h
  unfold numsL
  split at h
  · rename_i h1
    rw [if_pos h1]
    match j, h with
    | 0, h => cases h; exact ⟨_, rfl, rfl⟩
    | 1, h => cases h; exact ⟨_, rfl, rfl⟩
  · rename_i h1
    rw [if_neg h1]
    split at h
    · rename_i h7
      rw [if_pos h7]
      match j, h with
      | 0, h => cases h; exact ⟨_, rfl, rfl⟩
      | 1, h => cases h; exact ⟨_, rfl, rfl⟩
    · rename_i h7
      rw [if_neg h7]
      match j, h with
      | 0, h => cases h; exact ⟨_, rfl, rfl⟩
theorem tOf_at {s : Stp} {a : Option Addr} {n c j o : Nat} (h : (tOf s.ck)[j]? = some o) : ∃ x, (txtsL s)[j]? = some x ∧ (stc s a n c)[o]? = some (strV x) := by
  unfold tOf at h
  unfold txtsL
  split at h
  · rename_i h1
    rw [if_pos h1]
    match j, h with
    | 0, h => cases h; exact ⟨_, rfl, rfl⟩
    | 1, h => cases h; exact ⟨_, rfl, rfl⟩
  · rename_i h1
    rw [if_neg h1]
    split at h
    · rename_i h7
      rw [if_pos h7]
      match j, h with
      | 0, h => cases h; exact ⟨_, rfl, rfl⟩
      | 1, h => cases h; exact ⟨_, rfl, rfl⟩
      | 2, h => cases h; exact ⟨_, rfl, rfl⟩
    · rename_i h7
      rw [if_neg h7]
      split at h
      · rename_i h5
        rw [if_pos h5]
        match j, h with
        | 0, h => cases h; exact ⟨_, rfl, rfl⟩
        | 1, h => cases h; exact ⟨_, rfl, rfl⟩
      · rename_i h5
        rw [if_neg h5]
        match j, h with
        | 0, h => cases h; exact ⟨_, rfl, rfl⟩
theorem nOf_len (s : Stp) : (nOf s.kind).length = (numsL s).length := by unfold nOf numsL; split; rfl; split <;> rfl
theorem tOf_len (s : Stp) : (tOf s.ck).length = (txtsL s).length := by unfold tOf txtsL; split; rfl; split; rfl; split <;> rfl
def ic (x : Int) : List Value := [.int .i64 x]
/-- one more string -/
theorem appS {x : List UInt8} {b : Nat} {w : Value} {ls : List (List UInt8)} {K : Value → Mem → Prop} {l : Lk K} {l1 : Lk w} {l2 : Lk M} (hlen : ls.length ≤ 1000000) (H : Hq m0 M S (cellA b (.cells #[strV x] T_string (0, 0)) :: stA w ls :: L))
    (hK : ∀ v M', Hq m0 M' S (stA v (ls ++ [x]) :: L) → K v M') : appQ Tryz.prog T_string 1 16 [.string ⟨#[]⟩] w (.slice (some ⟨b, 0, none⟩) 1 1) M K l l1 l2 := by
  have h := H.hs.1
  have hb : M b = some (.cells [strV x].toArray T_string (0, 0)) := by with_unfolding_all exact h
  clear h
  refine appQ1 H (k := 1) rfl (ldS_cell (l := [strV x]) hb (by simp)) rfl (by simp [Value.oneCell']) rfl (by omega) (by omega) fun w2 M f H => ?_
  have H := H.tail
  refine hK w2 M ?_
  rw [show ls.length + 1 = (ls ++ [x]).length by simp, show ls.flatMap sc ++ [strV x].take (1 * 1) = (ls ++ [x]).flatMap sc by rw [List.flatMap_append]; rfl] at H
  exact H
abbrev lineC : NC := .seq shell_Line_r22 .ret
theorem line_c {E : Env} {w : Value} {ls : List (List UInt8)} (e4 : E.get 4 = w) (h4 : E.has 4 = true) (H : Hq m M [] (stA w ls :: L)) (hl : ls.length ≤ 6000) (hw : ∀ x ∈ ls, x.length ≤ 15001) :
    wpN Tryz.prog lineC (retP shell_Line_F.rvs fun v M => v = strV (Lib.join ls [32]) ∧ Fr m M []) E M := by
  have hj := join_le 15001 ls hw
  have hj2 : (Lib.join ls [32]).length ≤ 100000000 := Nat.le_trans hj (by omega)
  simp (disch := omega) only [go_sem, undef, e4, h4]
  refine callQ H (join_s (stA_rd H.hs.1) (by omega) hj2) fun M f H => ?_
  simp (disch := omega) only [go_sem, undef]
  exact ⟨rfl, H.fr⟩
abbrev lineB : NC := (.seq (.seq shell_Line_r16
  (.cond (.slot 56)
    (.seq shell_Line_r17
    (.block 4 (.loop [4, 58, 59, 60] shell_Line_l2)))
    .skip))
  lineC)
theorem line_b {E : Env} {s : Stp} {a : Option Addr} {n c sb : Nat} {w : Value} {ls : List (List UInt8)} (hG : Gs m) (hs : Fit s) (hp : RdS 1 ic m (.slice a s.picks.length c) s.picks) (hn : n = s.picks.length) (e1 : E.get 1 = .pointer (some ⟨sb, 0, none⟩)) (h1 : E.has 1 = true) (e4 : E.get 4 = w) (h4 : E.has 4 = true) (H : Hq m M [] [stA w ls, cellA sb (.cells (stc s a n c).toArray T_api_Step (0, 0))])
    (hl : ls.length ≤ 10) (hw : ∀ x ∈ ls, x.length ≤ 15001) :
    wpN Tryz.prog lineB (retP shell_Line_F.rvs fun v M => v = strV (Lib.join (ls ++ (if s.kind = 8 then s.picks.map Lib.itoa else [])) [32]) ∧ Fr m M []) E M := by
  have key : ∀ E M w ls', E.get 4 = w → E.has 4 = true → Hq m M [] [stA w ls', cellA sb (.cells (stc s a n c).toArray T_api_Step (0, 0))] → ls' = ls ++ (if s.kind = 8 then s.picks.map Lib.itoa else []) → wpN Tryz.prog lineC (retP shell_Line_F.rvs fun v M => v = strV (Lib.join (ls ++ (if s.kind = 8 then s.picks.map Lib.itoa else [])) [32]) ∧ Fr m M []) E M := by
    intro E M w ls' e4 h4 H he
    rw [← he]
    refine line_c e4 h4 H ?_ ?_
    · rw [he]; have := hs.picks; split <;> simp <;> omega
    · rw [he]; intro x hx
      rcases List.mem_append.1 hx with hx | hx
      · exact hw x hx
      · split at hx
        · obtain ⟨n, h1, rfl⟩ := List.mem_map.1 hx
          exact Nat.le_trans (itoa_le n (hs.ok.picks n h1)) (by omega)
        · cases hx
  show wpN Tryz.prog (.seq (.seq shell_Line_r16 (.cond (.slot 56) (.seq shell_Line_r17 (.block 4 (.loop [4, 58, 59, 60] shell_Line_l2))) .skip)) lineC) _ _ _
  generalize hC : lineC = C at key ⊢
  subst hn
  have hpl := hs.picks
  by_cases h8 : s.kind = 8
  · simp (disch := omega) only [go_sem, undef, e1, h1, e4, h4, H.cs, decide_eq_true h8]
    refine loopQ_intro (fun k E m' => ∃ (j : Nat) (w : Value), j ≤ s.picks.length ∧ k = s.picks.length - j ∧ E = [(4, w), (58, .slice a s.picks.length c), (59, .int .i64 (s.picks.length : Nat)), (60, .int .i64 (j : Nat))] ∧ Hq m m' [] [stA w (ls ++ (s.picks.take j).map Lib.itoa), cellA sb (.cells (stc s a s.picks.length c).toArray T_api_Step (0, 0))]) s.picks.length rfl ⟨0, w, by omega, rfl, ?_, by simpa using H⟩ ?_
    · rfl
    clear H
    rintro k E M1 ⟨j, w, hj, rfl, rfl, H⟩
    by_cases hlt : j < s.picks.length
    · refine RdS.elK (hp.frame H.fr) hlt (by decide) fun bx o x hx hix hE => ?_
      have hx0 : (ic x)[0]? = some (.int .i64 x) := rfl
      simp (disch := omega) only [go_sem, undef, dec_t (show ((j : Nat) : Int) < (s.picks.length : Nat) by omega), hix, hE.ld0, hx0]
      refine callQ H (itoa_s x (hs.ok.picks x (List.mem_of_getElem? hx)) (hG.fr H.fr)) fun M f H => ?_
      simp (disch := omega) only [go_sem, undef]
      refine newQ H fun b M f H => ?_
      simp (disch := omega) only [go_sem, undef]
      refine appS (by simp; have := hs.picks; omega) H fun w2 M H => ?_
      simp (disch := omega) only [go_sem, undef]
      have htk : s.picks.take (j + 1) = s.picks.take j ++ [x] := by rw [List.take_add_one, hx]; rfl
      refine handN_intro (s.picks.length - (j + 1)) (by omega) ⟨j + 1, w2, by omega, rfl, rfl, ?_⟩
      rw [htk, List.map_append, ← List.append_assoc]
      exact H
    · have e : j = s.picks.length := by omega
      subst e
      simp (disch := omega) only [go_sem, undef, dec_f (show ¬ ((s.picks.length : Nat) : Int) < (s.picks.length : Nat) by omega)]
      exact key _ _ _ _ rfl rfl H (by rw [if_pos h8, List.take_length])
  · simp (disch := omega) only [go_sem, undef, e1, h1, e4, h4, H.cs, decide_eq_false h8]
    exact key _ _ _ _ rfl rfl H (by rw [if_neg h8, List.append_nil])
abbrev lineA : NC := (.seq (.seq shell_Line_r10
  (.cond (.slot 38)
    (.seq shell_Line_r11
    (.block 2 (.loop [1, 4, 40, 41, 42] shell_Line_l1)))
    .skip))
  lineB)
theorem line_a {E : Env} {s : Stp} {a : Option Addr} {n c sb : Nat} {w : Value} {ls : List (List UInt8)} (hG : Gs m) (hs : Fit s) (hp : RdS 1 ic m (.slice a s.picks.length c) s.picks) (hn : n = s.picks.length) (e1 : E.get 1 = .pointer (some ⟨sb, 0, none⟩)) (h1 : E.has 1 = true) (e4 : E.get 4 = w) (h4 : E.has 4 = true) (H : Hq m M [] [stA w ls, cellA sb (.cells (stc s a n c).toArray T_api_Step (0, 0))])
    (hl : ls.length ≤ 5) (hw : ∀ x ∈ ls, x.length ≤ 15001) :
    wpN Tryz.prog lineA (retP shell_Line_F.rvs fun v M => v = strV (Lib.join (ls ++ ((if s.kind = 1 then (txtsL s).map wordL else []) ++ (if s.kind = 8 then s.picks.map Lib.itoa else []))) [32]) ∧ Fr m M []) E M := by
  have htl : (txtsL s).length ≤ 3 := by unfold txtsL; split; simp; split; simp; split <;> simp
  have htm : ∀ x ∈ txtsL s, x.length ≤ 5000 := by
    intro t ht
    unfold txtsL at ht
    have h1 := hs.key; have h2 := hs.val; have h3 := hs.old; have h4 := hs.fin
    split at ht
    · simp only [List.mem_cons, List.not_mem_nil, or_false] at ht
      rcases ht with rfl | rfl <;> assumption
    · split at ht
      · simp only [List.mem_cons, List.not_mem_nil, or_false] at ht
        rcases ht with rfl | rfl | rfl <;> assumption
      · split at ht
        · simp only [List.mem_cons, List.not_mem_nil, or_false] at ht
          rcases ht with rfl | rfl <;> assumption
        · simp only [List.mem_cons, List.not_mem_nil, or_false] at ht
          subst ht; assumption
  have hwm : ∀ x ∈ (txtsL s).map wordL, x.length ≤ 15001 := by
    intro x hx
    obtain ⟨t, h1, rfl⟩ := List.mem_map.1 hx
    have := wordL_len t
    have := htm t h1
    omega
  have key : ∀ E M w ls', E.get 1 = .pointer (some ⟨sb, 0, none⟩) → E.has 1 = true → E.get 4 = w → E.has 4 = true → Hq m M [] [stA w ls', cellA sb (.cells (stc s a n c).toArray T_api_Step (0, 0))] → ls' = ls ++ (if s.kind = 1 then (txtsL s).map wordL else []) → wpN Tryz.prog lineB (retP shell_Line_F.rvs fun v M => v = strV (Lib.join (ls ++ ((if s.kind = 1 then (txtsL s).map wordL else []) ++ (if s.kind = 8 then s.picks.map Lib.itoa else []))) [32]) ∧ Fr m M []) E M := by
    intro E M w ls' e1 h1 e4 h4 H he
    rw [← List.append_assoc, ← he]
    refine line_b hG hs hp hn e1 h1 e4 h4 H ?_ ?_
    · rw [he]; split <;> simp <;> omega
    · rw [he]; intro x hx
      rcases List.mem_append.1 hx with hx | hx
      · exact hw x hx
      · split at hx
        · exact hwm x hx
        · cases hx
  show wpN Tryz.prog (.seq (.seq shell_Line_r10 (.cond (.slot 38) (.seq shell_Line_r11 (.block 2 (.loop [1, 4, 40, 41, 42] shell_Line_l1))) .skip)) lineB) _ _ _
  generalize hC : lineB = C at key ⊢
  by_cases hk : s.kind = 1
  · simp (disch := omega) only [go_sem, undef, e1, h1, e4, h4, H.cs, decide_eq_true hk]
    have hb : M sb = some (.cells (stc s a n c).toArray T_api_Step (0, 0)) := H.cs.1
    refine callN H (texts_s hb) fun tv M2 A hA f H => ?_
    subst hA
    have hr0 := ptA_rd H.hs.1
    have htf := tOf_len s
    obtain ⟨ta, tc, rfl⟩ := hr0.form
    simp (disch := omega) only [go_sem, undef]
    refine loopQ_intro (fun k E m' => ∃ (j : Nat) (w : Value), j ≤ (tOf s.ck).length ∧ k = (tOf s.ck).length - j ∧ E = [(1, .pointer (some ⟨sb, 0, none⟩)), (4, w), (40, .slice ta (tOf s.ck).length tc), (41, .int .i64 ((tOf s.ck).length : Nat)), (42, .int .i64 (j : Nat))] ∧ Hq m m' [] [stA w (ls ++ ((txtsL s).take j).map wordL), ptA T_P_string sb (.slice ta (tOf s.ck).length tc) (tOf s.ck), cellA sb (.cells (stc s a n c).toArray T_api_Step (0, 0))]) (tOf s.ck).length rfl ⟨0, w, by omega, rfl, rfl, by simpa using H.perm (List.Perm.swap _ _ _)⟩ ?_
    clear H f hb
    rintro k E M1 ⟨j, w, hj, rfl, rfl, H⟩
    by_cases hlt : j < (tOf s.ck).length
    · refine RdS.elK (ptA_rd (H.at 1 rfl)) hlt (by decide) fun bx o x hx hix hE => ?_
      obtain ⟨t, ht, hcell⟩ := tOf_at (a := a) (n := n) (c := c) hx
      have hx0 : (pcB sb x)[0]? = some (.pointer (some ⟨sb, x, none⟩)) := rfl
      simp (disch := omega) only [go_sem, undef, dec_t (show ((j : Nat) : Int) < ((tOf s.ck).length : Nat) by omega), hix, hE.ld0, hx0, H.cs, hcell]
      refine callQ H (word_s t (by have := htm t (List.mem_of_getElem? ht); omega) _) fun M f H => ?_
      simp (disch := omega) only [go_sem, undef]
      refine newQ H fun b M f H => ?_
      simp (disch := omega) only [go_sem, undef]
      refine appS (by simp; omega) H fun w2 M H => ?_
      simp (disch := omega) only [go_sem, undef]
      have htk : (txtsL s).take (j + 1) = (txtsL s).take j ++ [t] := by rw [List.take_add_one, ht]; rfl
      refine handN_intro ((tOf s.ck).length - (j + 1)) (by omega) ⟨j + 1, w2, by omega, rfl, rfl, ?_⟩
      rw [htk, List.map_append, ← List.append_assoc]
      exact H
    · have e : j = (tOf s.ck).length := by omega
      subst e
      simp (disch := omega) only [go_sem, undef, dec_f (show ¬ (((tOf s.ck).length : Nat) : Int) < ((tOf s.ck).length : Nat) by omega)]
      exact key _ _ _ _ rfl rfl rfl rfl (H.drop 1) (by rw [if_pos hk, htf, List.take_length])
  · simp (disch := omega) only [go_sem, undef, e1, h1, e4, h4, H.cs, decide_eq_false hk]
    exact key _ _ _ _ rfl rfl rfl rfl H (by rw [if_neg hk, List.append_nil])
theorem find_idx {α : Type} (p : α → Bool) : ∀ l : List α, l.find? p = (l.findIdx? p).bind (l[·]?)
  | [] => rfl
  | x :: l => by
    have ih := find_idx p l
    rw [List.find?_cons, List.findIdx?_cons]
    cases h : p x with
    | true => simp
    | false =>
      simp only [ih, Bool.false_eq_true, if_false]
      cases hq : l.findIdx? p with
      | none => rfl
      | some j => simp
set_option maxHeartbeats 1000000 in
theorem line_s {s : Stp} {a : Option Addr} {c : Nat} (hG : Gs m) (hs : Fit s) (hp : RdS 1 ic m (.slice a s.picks.length c) s.picks) :
    MC Tryz.prog n_shell_Line [.agg (stc s a s.picks.length c).toArray] m fun v M => v = strV (lineL s) ∧ Fr m M [] := by
  have hrest := rest_le hs
  cases hnm : nameOf s with
  | none =>
    have hl : lineL s = [] := by unfold lineL; rw [hnm]
    have hfi : kindsL.findIdx? (fitsK s) = none := by
      unfold nameOf at hnm
      rw [find_idx] at hnm
      cases hq : kindsL.findIdx? (fitsK s) with
      | none => rfl
      | some j =>
        have hj := (List.findIdx?_eq_some_iff_getElem.1 hq).1
        rw [hq, Option.bind_some, List.getElem?_eq_getElem hj] at hnm
        cases hnm
    rw [hl]
    refine shell_Line_go (by simp [Tryz.f33]) ?_
    have H := Hq.refl m []
    simp (disch := omega) only [go_sem, undef]
    refine newQ H fun sb M f H => ?_
    simp (disch := omega) only [go_sem, undef]
    refine callN H (kinds_s M) fun kv M2 A hA f H => ?_
    subst hA
    have hr := kdA_rd H.hs.1
    obtain ⟨ka, kcap, rfl⟩ := hr.form
    have hb : M2 sb = some (.cells (stc s a s.picks.length c).toArray T_api_Step (0, 0)) := H.cs.1
    simp (disch := omega) only [go_sem, undef]
    refine callQ H (idxF_s (p := fitsK s) hr (by kernel_rfl) (fun M3 f3 x _ => fits_go (f3.get0 hb)) (by decide)) fun M3 f H => ?_
    simp (disch := omega) only [go_sem, undef, hfi, ixO]
    exact ⟨rfl, H.fr⟩
  | some nm =>
    have hnl : (numsL s).length ≤ 2 := by unfold numsL; split; simp; split <;> simp
    have hnm1 : ∀ n ∈ numsL s, I64 n := by
      have h1 := hs.ok.client; have h2 := hs.ok.n; have h3 := hs.ok.count
      intro n hn
      unfold numsL at hn
      split at hn
      · simp only [List.mem_cons, List.not_mem_nil, or_false] at hn
        rcases hn with rfl | rfl <;> assumption
      · split at hn
        · simp only [List.mem_cons, List.not_mem_nil, or_false] at hn
          rcases hn with rfl | rfl <;> assumption
        · simp only [List.mem_cons, List.not_mem_nil, or_false] at hn
          subst hn; assumption
    have hl : lineL s = Lib.join (([nm] ++ (numsL s).map Lib.itoa) ++ ((if s.kind = 1 then (txtsL s).map wordL else []) ++ (if s.kind = 8 then s.picks.map Lib.itoa else []))) [32] := by
      unfold lineL; rw [hnm]; rfl
    have hns := name_nosp hnm
    obtain ⟨j0, k0, hfi, hk0, hj0⟩ : ∃ j k, kindsL.findIdx? (fitsK s) = some j ∧ kindsL[j]? = some k ∧ k.1 = nm := by
      unfold nameOf at hnm
      rw [find_idx] at hnm
      cases hq : kindsL.findIdx? (fitsK s) with
      | none => rw [hq] at hnm; cases hnm
      | some j =>
        have hj := (List.findIdx?_eq_some_iff_getElem.1 hq).1
        rw [hq, Option.bind_some, List.getElem?_eq_getElem hj, Option.map_some] at hnm
        exact ⟨j, _, rfl, List.getElem?_eq_getElem hj, Option.some.inj hnm⟩
    have hj13 : j0 < 13 := (List.getElem?_eq_some_iff.1 hk0).1
    rw [hl]
    generalize hT : Lib.join (([nm] ++ (numsL s).map Lib.itoa) ++ ((if s.kind = 1 then (txtsL s).map wordL else []) ++ (if s.kind = 8 then s.picks.map Lib.itoa else []))) [32] = T
    refine shell_Line_go (by simp [Tryz.f33]) ?_
    have key : ∀ E M w ls' sb, E.get 1 = .pointer (some ⟨sb, 0, none⟩) → E.has 1 = true → E.get 4 = w → E.has 4 = true → Hq m M [] [stA w ls', cellA sb (.cells (stc s a s.picks.length c).toArray T_api_Step (0, 0))] → ls' = [nm] ++ (numsL s).map Lib.itoa → wpN Tryz.prog lineA (retP shell_Line_F.rvs fun v M => v = strV T ∧ Fr m M []) E M := by
      intro E M w ls' sb e1 h1 e4 h4 H he
      rw [← hT, ← he]
      refine line_a hG hs hp rfl e1 h1 e4 h4 H (by rw [he]; simp; omega) ?_
      rw [he]; intro x hx
      rcases List.mem_append.1 hx with hx | hx
      · rw [List.mem_singleton] at hx; subst hx; have := hns.2.1; omega
      · obtain ⟨n, h1, rfl⟩ := List.mem_map.1 hx
        exact Nat.le_trans (itoa_le n (hnm1 n h1)) (by omega)
    show wpN Tryz.prog (.seq shell_Line_r0 (.seq shell_Line_r1 (.seq (.seq shell_Line_r2 (.cond (.slot 15) (.seq shell_Line_r3 .ret) .skip)) (.seq shell_Line_r4 (.seq (.seq shell_Line_r5 (.block 0 (.loop [1, 4, 22, 23, 24] shell_Line_l0))) lineA))))) _ _ _
    generalize hC : lineA = C at key ⊢
    have H := Hq.refl m []
    simp (disch := omega) only [go_sem, undef]
    refine newQ H fun sb M f H => ?_
    simp (disch := omega) only [go_sem, undef]
    refine callN H (kinds_s M) fun kv M2 A hA f H => ?_
    subst hA
    have hr := kdA_rd H.hs.1
    obtain ⟨ka, kcap, rfl⟩ := hr.form
    have hb : M2 sb = some (.cells (stc s a s.picks.length c).toArray T_api_Step (0, 0)) := H.cs.1
    simp (disch := omega) only [go_sem, undef]
    refine callQ H (idxF_s (p := fitsK s) hr (by kernel_rfl) (fun M3 f3 x _ => fits_go (f3.get0 hb)) (by decide)) fun M3 f H => ?_
    have H := H.drop 0
    simp (disch := omega) only [go_sem, undef, hfi, ixO, dec_f (show ¬ ((j0 : Nat) : Int) < 0 by omega)]
    clear hb hr
    refine callN H (kinds_s M3) fun kv M2 A hA f H => ?_
    subst hA
    have hr := kdA_rd H.hs.1
    obtain ⟨ka, kcap, rfl⟩ := hr.form
    refine RdS.elK hr (show j0 < kindsL.length from hj13) (by decide) fun bx o x hx hix hE => ?_
    have hxk : x = k0 := Option.some.inj (hx.symm.trans hk0)
    subst hxk
    simp (disch := omega) only [go_sem, undef, hix, hE.ld0]
    refine newQ H fun b M f H => ?_
    have H := Hq.ofCell (size := 1) (n := 1) (cap := 1) (xs := [nm].flatMap sc) (tail := []) (hj0 ▸ H) rfl rfl
    have H : Hq m M [] [stA (.slice (some ⟨b, 0, none⟩) 1 1) [nm], cellA sb (.cells (stc s a s.picks.length c).toArray T_api_Step (0, 0))] := H.drop 1
    simp (disch := omega) only [go_sem, undef]
    have hb : M sb = some (.cells (stc s a s.picks.length c).toArray T_api_Step (0, 0)) := H.cs.1
    refine callN H (numbers_s hb) fun tv M2 A hA f H => ?_
    subst hA
    have hr0 := ptA_rd H.hs.1
    have hnf := nOf_len s
    obtain ⟨ta, tc, rfl⟩ := hr0.form
    simp (disch := omega) only [go_sem, undef]
    refine loopQ_intro (fun k E m' => ∃ (j : Nat) (w : Value), j ≤ (nOf s.kind).length ∧ k = (nOf s.kind).length - j ∧ E = [(1, .pointer (some ⟨sb, 0, none⟩)), (4, w), (22, .slice ta (nOf s.kind).length tc), (23, .int .i64 ((nOf s.kind).length : Nat)), (24, .int .i64 (j : Nat))] ∧ Hq m m' [] [stA w ([nm] ++ ((numsL s).take j).map Lib.itoa), ptA T_P_int sb (.slice ta (nOf s.kind).length tc) (nOf s.kind), cellA sb (.cells (stc s a s.picks.length c).toArray T_api_Step (0, 0))]) (nOf s.kind).length rfl ⟨0, .slice (some ⟨b, 0, none⟩) 1 1, by omega, rfl, rfl, by simpa using H.perm (List.Perm.swap _ _ _)⟩ ?_
    clear H f hb
    rintro k E M1 ⟨j, w, hj, rfl, rfl, H⟩
    by_cases hlt : j < (nOf s.kind).length
    · refine RdS.elK (ptA_rd (H.at 1 rfl)) hlt (by decide) fun bx o x hx hix hE => ?_
      obtain ⟨t, ht, hcell⟩ := nOf_at (a := a) (n := s.picks.length) (c := c) hx
      have hx0 : (pcB sb x)[0]? = some (.pointer (some ⟨sb, x, none⟩)) := rfl
      simp (disch := omega) only [go_sem, undef, dec_t (show ((j : Nat) : Int) < ((nOf s.kind).length : Nat) by omega), hix, hE.ld0, hx0, H.cs, hcell]
      refine callQ H (itoa_s t (hnm1 t (List.mem_of_getElem? ht)) (hG.fr H.fr)) fun M f H => ?_
      simp (disch := omega) only [go_sem, undef]
      refine newQ H fun b M f H => ?_
      simp (disch := omega) only [go_sem, undef]
      refine appS (by simp; omega) H fun w2 M H => ?_
      simp (disch := omega) only [go_sem, undef]
      have htk : (numsL s).take (j + 1) = (numsL s).take j ++ [t] := by rw [List.take_add_one, ht]; rfl
      refine handN_intro ((nOf s.kind).length - (j + 1)) (by omega) ⟨j + 1, w2, by omega, rfl, rfl, ?_⟩
      rw [htk, List.map_append]
      exact H
    · have e : j = (nOf s.kind).length := by omega
      subst e
      simp (disch := omega) only [go_sem, undef, dec_f (show ¬ (((nOf s.kind).length : Nat) : Int) < ((nOf s.kind).length : Nat) by omega)]
      exact key _ _ _ _ _ rfl rfl rfl rfl (H.drop 1) (by rw [hnf, List.take_length])
end Go.Fw
