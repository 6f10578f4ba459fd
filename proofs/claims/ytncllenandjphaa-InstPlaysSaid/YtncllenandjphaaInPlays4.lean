import Derived.Test.YtncllenandjphaaInPlays3
namespace Go.Fw
open Go.Proofs
/-- what the law's list becomes -/
def askW (a : Int × Int × Int) (W : List (Int × Int)) : List (Int × Int) := if a.1 = 1 then insA a.2 W else if a.1 = 2 then W.filter (· ≠ a.2) else W
theorem askW_len (a : Int × Int × Int) (W : List (Int × Int)) : (askW a W).length ≤ W.length + 1 := by
  unfold askW
  split
  · have h := (insA_perm (W := W) (l := W) a.2 (List.Perm.refl _)).length_eq
    rw [← h]; unfold addL; split <;> simp
  · split
    · exact Nat.le_trans (List.length_filter_le _ _) (by omega)
    · omega

set_option maxHeartbeats 2000000 in
theorem rest_spec {m m' : Mem} {ps s v : Value} {sb sr wb n k : Nat} {S W : List (Int × Int)} {l : List (Int × Int × Int)} {Q : Exit → Env → Mem → Prop} (h : PS m m' s sb sr wb S W v) (hl : W.length < 999) (hA : RdA m ps l) (hn : n < l.length)
    (hk : k ≤ W.length) (hpre : ∀ j (hj : j < W.length), j < k → W[j] ≠ l[n].2) (hat : ∀ hk : k < W.length, W[k] = l[n].2) (h1 : l[n].1 ≠ 1)
    (hQ : ∀ E m2 S2 v2, EnvOk E ps s wb n → PS m m2 s sb sr wb S2 (askW l[n] W) v2 → Q .normal E m2) :
    wpN Try.prog playsRest Q [(1, ps), (5, s), (6, .pointer (some ⟨wb, 0, none⟩)), (7, fnV wb), (9, .int .i64 (n : Nat)), (10, .int .i64 (k : Nat)), (11, .bool (decide ((k : Int) < (W.length : Int)))), (70, .int .i64 l[n].1), (71, .bool false)] m' := by
  obtain ⟨e1, e2, e3, e4, e5⟩ := h.ne
  have hthere : decide ((k : Int) < (W.length : Int)) = decide (l[n].2 ∈ S) := by
    refine decide_eq_decide.2 ⟨fun hk' => ?_, fun hm => ?_⟩
    · rw [h.perm_mem, ← hat (by omega)]; exact List.getElem_mem _
    · rw [h.perm_mem] at hm
      obtain ⟨j, hj, e⟩ := List.mem_iff_getElem.1 hm
      rcases Nat.lt_or_ge j k with hh | hh
      · exact absurd e (hpre j hj hh)
      · omega
  obtain ⟨b2, o2, c2, rfl, k1, k2, k3⟩ := (hA.frame h.fr).at hn
  unfold playsRest
  generalize hStrike : iplays_r26 = Strike
  by_cases h2 : l[n].1 = 2
  · have hw : askW l[n] W = W.filter (· ≠ l[n].2) := by unfold askW; rw [if_neg h1, if_pos h2]
    simp (disch := omega) only [go_sem, h2, decide_true, k2, k3]
    refine call_with (drop_spec h.set l[n].2) ?_
    rintro u m1 ⟨rfl, hs1, f1⟩
    have fa := h.fr.trans f1 (T := [sr]) (fun x hx hx0 => by simp at hx; subst hx; exact absurd h.n2 hx0)
    have hcell := f1.get h.cell (by simpa using e2)
    have hrow := h.row.frame f1 (fun b hb hx => by simp at hx; subst hx; exact e4 hb)
    simp (disch := omega) only [go_sem, hthere, bne_self_eq_false]
    by_cases hk' : k < W.length
    · have hi : l[n].2 ∈ S := by rw [h.perm_mem, ← hat hk']; exact List.getElem_mem _
      simp (disch := omega) only [go_sem, decide_eq_true hi]
      have hf : W.filter (· ≠ l[n].2) = W.take k ++ W.drop (k + 1) := by rw [← hat hk']; exact filter_ne h.asc hk'
      rw [← hStrike]
      refine strike_spec (S := S) (ps := .slice (some ⟨b2, o2, none⟩) l.length c2) (k := k) hs1 hcell hrow h.asc ?_ fa h.n1 h.n2 h.n3 h.n4 e1 e2 e5 hl hk' ?_ ?_ ?_ fun m2 v2 hps => hQ _ m2 (S.filter (· ≠ l[n].2)) v2 ⟨rfl, rfl, rfl, rfl, rfl, rfl⟩ ?_
      · rw [← hf]; exact h.perm.filter _
      · exact ⟨rfl, rfl, rfl, rfl, rfl, rfl⟩
      · rfl
      · rfl
      · rw [hw, hf]; exact hps
    · have hi : l[n].2 ∉ S := by
        intro hi
        rw [← decide_eq_true_iff (p := l[n].2 ∈ S), ← hthere] at hi
        exact hk' (by have := of_decide_eq_true hi; omega)
      simp (disch := omega) only [go_sem, decide_eq_false hi]
      have hiW : l[n].2 ∉ W := fun hx => hi ((h.perm_mem _).2 hx)
      have hf : W.filter (· ≠ l[n].2) = W := List.filter_eq_self.2 fun p hp => by
        simp only [ne_eq, decide_not, Bool.not_eq_true', decide_eq_false_iff_not]; rintro rfl; exact hiW hp
      refine hQ _ m1 (S.filter (· ≠ l[n].2)) v ⟨rfl, rfl, rfl, rfl, rfl, rfl⟩ ?_
      rw [hw]
      exact ⟨hs1, hcell, by rw [hf]; exact hrow, by rw [hf]; exact h.asc, h.perm.filter _, fa, h.n1, h.n2, h.n3, h.n4⟩
  · have hw : askW l[n] W = W := by unfold askW; rw [if_neg h1, if_neg h2]
    simp (disch := omega) only [go_sem, decide_eq_false h2]
    by_cases h3 : l[n].1 = 3
    · simp (disch := omega) only [go_sem, h3, decide_true, k2, k3]
      refine call_with (has_spec h.set l[n].2) ?_
      rintro u m1 ⟨rfl, f1⟩
      simp (disch := omega) only [go_sem, hthere, bne_self_eq_false]
      refine hQ _ m1 S v ⟨rfl, rfl, rfl, rfl, rfl, rfl⟩ ?_
      rw [hw]; exact h.grow f1
    · simp (disch := omega) only [go_sem, decide_eq_false h3]
      refine hQ _ m' S v ⟨rfl, rfl, rfl, rfl, rfl, rfl⟩ ?_
      rw [hw]; exact h

def playsStep : NC := .seq iplays_r17 (.seq (.seq iplays_r18 (.block 6 (.seq iplays_r19 (.cond (.slot 71) playsOne playsRest)))) playsLook)
def playsBody : NC := .seq (.block 3 (.seq iplays_r14 (.seq (.block 4 (.loop [1, 5, 6, 7, 9, 10] iplays_l1)) playsStep))) iplays_r32
example : iplays_l2 = .seq (.seq iplays_r13 (.cond (.slot 41) .skip (.exit 2))) playsBody := rfl

theorem lookE_spec {m m' : Mem} {E : Env} {ps s v : Value} {sb sr wb n : Nat} {S W : List (Int × Int)} {Q : Exit → Env → Mem → Prop} (h : PS m m' s sb sr wb S W v) (hl : W.length < 1000) (hE : EnvOk E ps s wb n)
    (hQ : ∀ E2 m2, EnvOk E2 ps s wb n → PS m m2 s sb sr wb S W v → Q .normal E2 m2) : wpN Try.prog playsLook Q E m' := by
  obtain ⟨g0, g1, g5, g6, g7, g9⟩ := hE
  refine look_spec h hl g0 g5 g6 fun m2 h2 => hQ _ m2 ⟨rfl, g1, rfl, rfl, g7, g9⟩ h2

set_option maxHeartbeats 2000000 in
theorem step_spec {m m' : Mem} {ps s v : Value} {sb sr wb n : Nat} {S W : List (Int × Int)} {l : List (Int × Int × Int)} {Q : Exit → Env → Mem → Prop} (h : PS m m' s sb sr wb S W v) (hl : W.length < 900) (hA : RdA m ps l) (hn : n < l.length)
    (hQ : ∀ E m2 S2 v2, EnvOk E ps s wb n → PS m m2 s sb sr wb S2 (askW l[n] W) v2 → Q .normal E m2) (k : Nat) (hk : k ≤ W.length) (hpre : ∀ j (hj : j < W.length), j < k → W[j] ≠ l[n].2) (hat : ∀ hk : k < W.length, W[k] = l[n].2) :
    wpN Try.prog playsStep Q [(1, ps), (5, s), (6, .pointer (some ⟨wb, 0, none⟩)), (7, fnV wb), (9, .int .i64 (n : Nat)), (10, .int .i64 (k : Nat)), (59, .bool false)] m' := by
  have kw := h.cell
  have hform := h.row.form
  have hA' := hA.frame h.fr
  have hlen := askW_len l[n] W
  have look : ∀ (E : Env) (m2 : Mem) (S2 : List (Int × Int)) (v2 : Value), EnvOk E ps s wb n → PS m m2 s sb sr wb S2 (askW l[n] W) v2 → wpN Try.prog playsLook Q E m2 := fun E m2 S2 v2 hE h2 =>
    lookE_spec h2 (by omega) hE fun E2 m3 hE2 h3 => hQ E2 m3 S2 v2 hE2 h3
  obtain ⟨b2, o2, c2, rfl, k1, k2, k3⟩ := hA'.at hn
  obtain ⟨a, c, rfl⟩ := hform
  unfold playsStep
  generalize hOne : playsOne = One
  generalize hRest : playsRest = Rest
  generalize hLook : playsLook = Look at look
  simp (disch := omega) only [go_sem, kw, k1]
  by_cases h1 : l[n].1 = 1
  · simp (disch := omega) only [go_sem, h1, decide_true]
    rw [← hOne]
    refine one_spec h (by omega) hA hn rfl rfl rfl rfl rfl rfl fun m2 v2 h2 => ?_
    simp (disch := omega) only [go_sem]
    refine look _ m2 (addL S l[n].2) v2 ⟨rfl, rfl, rfl, rfl, rfl, rfl⟩ ?_
    rw [show askW l[n] W = insA l[n].2 W from if_pos h1]; exact h2
  · simp (disch := omega) only [go_sem, decide_eq_false h1]
    rw [← hRest]
    refine rest_spec h (by omega) hA hn hk hpre hat h1 fun E m2 S2 v2 hE h2 => ?_
    simp (disch := omega) only [go_sem]
    exact look E m2 S2 v2 hE h2

set_option maxHeartbeats 2000000 in
theorem body_spec {m m' : Mem} {ps s v : Value} {sb sr wb n : Nat} {S W : List (Int × Int)} {l : List (Int × Int × Int)} {Q : Exit → Env → Mem → Prop} (h : PS m m' s sb sr wb S W v) (hl : W.length < 900) (hA : RdA m ps l) (hn : n < l.length) (hn2 : n < 1000)
    (hQ : ∀ m2 S2 v2, PS m m2 s sb sr wb S2 (askW l[n] W) v2 → Q .normal (EnvP ps s wb (n + 1)) m2) : wpN Try.prog playsBody Q (EnvP ps s wb n) m' := by
  unfold playsBody
  show wpN Try.prog (.block 3 (.seq iplays_r14 (.seq (.block 4 (.loop [1, 5, 6, 7, 9, 10] iplays_l1)) playsStep))) (thenN (wpN Try.prog iplays_r32 Q) Q) _ _
  have tail : ∀ (E : Env) (m2 : Mem) (S2 : List (Int × Int)) (v2 : Value), EnvOk E ps s wb n → PS m m2 s sb sr wb S2 (askW l[n] W) v2 → wpN Try.prog iplays_r32 Q E m2 := by
    rintro E m2 S2 v2 ⟨g0, g1, g5, g6, g7, g9⟩ h2
    simp (disch := omega) only [go_sem, g0, g1, g5, g6, g7, g9]
    exact hQ m2 S2 v2 h2
  show wpN Try.prog (.seq iplays_r14 (.block 4 (.loop [1, 5, 6, 7, 9, 10] iplays_l1))) (thenN (wpN Try.prog playsStep (blockN 3 (thenN (wpN Try.prog iplays_r32 Q) Q))) (blockN 3 (thenN (wpN Try.prog iplays_r32 Q) Q))) (EnvP ps s wb n) m'
  refine scan_spec h (by omega) hA hn fun k hk hpre hat => ?_
  show wpN Try.prog playsStep (blockN 3 (thenN (wpN Try.prog iplays_r32 Q) Q)) _ _
  exact step_spec h hl hA hn (fun E m2 S2 v2 hE h2 => tail E m2 S2 v2 hE h2) k hk hpre hat

def playsTail : NC := .seq (.seq iplays_r12 (.block 2 (.loop [1, 5, 6, 7, 9] iplays_l2))) (.seq iplays_r33 .ret)
set_option maxHeartbeats 2000000 in
theorem tail_spec {m m' : Mem} {f0 ps s v : Value} {x8 : Value} {sb sr wb : Nat} {S W : List (Int × Int)} {l : List (Int × Int × Int)} (h : PS m m' s sb sr wb S W v) (hl : W.length ≤ 30) (hA : RdA m ps l) (hll : l.length ≤ 9223372036854775807) :
    wpN Try.prog playsTail (retP [.slot 4] fun v m' => v = .bool true ∧ Fr m m' []) [(0, f0), (1, ps), (5, s), (6, .pointer (some ⟨wb, 0, none⟩)), (7, fnV wb), (8, x8)] m' := by
  have hA2 := hA
  obtain ⟨pa, pc, rfl, hr⟩ := hA
  unfold playsTail
  rw [show iplays_l2 = .seq (.seq iplays_r13 (.cond (.slot 41) .skip (.exit 2))) playsBody from rfl]
  generalize hBody : playsBody = Body
  simp (disch := omega) only [go_sem]
  refine loopQ_intro (fun x E M => ∃ (n : Nat) (S W : List (Int × Int)) (v : Value), n ≤ 60 ∧ x = 60 - n ∧ E = EnvP (.slice pa l.length pc) s wb n ∧ PS m M s sb sr wb S W v ∧ W.length ≤ 30 + n) 60 rfl
    ⟨0, S, W, v, by omega, by omega, rfl, h, by omega⟩ ?_
  clear h hl
  rintro x E M ⟨n, S, W, v, hn, rfl, rfl, h, hl⟩
  have stop : wpN Try.prog (.seq iplays_r33 .ret) (retP [.slot 4] fun v m' => v = .bool true ∧ Fr m m' []) (EnvP (.slice pa l.length pc) s wb n) M := by
    unfold EnvP
    simp (disch := omega) only [go_sem]
    refine call_with (runs_spec M) ?_
    rintro u m2 ⟨rfl, f2⟩
    simp (disch := omega) only [go_sem]
    exact ⟨rfl, h.fr.trans0 f2⟩
  unfold EnvP at stop ⊢
  simp (disch := omega) only [go_sem] at stop
  by_cases h1 : n < l.length
  · by_cases h2 : n < 60
    · simp (disch := omega) only [go_sem, dec_t]
      rw [← hBody]
      refine body_spec h (by omega) hA2 h1 (by omega) fun m2 S2 v2 h3 => ?_
      have := askW_len l[n] W
      unfold EnvP
      simp (disch := omega) only [go_sem]
      exact handN_intro (60 - (n + 1)) (by omega) ⟨n + 1, S2, _, v2, by omega, rfl, rfl, h3, by omega⟩
    · simp (disch := omega) only [go_sem, dec_t, dec_f]
      exact stop
  · simp (disch := omega) only [go_sem, dec_f, undef, Bool.false_eq_true, if_false]
    exact stop
end Go.Fw
