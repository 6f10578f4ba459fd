import Derived.Test.YtpjecpkkcabnjaaGreatDoorSwF
set_option linter.unusedVariables false
set_option linter.unusedSimpArgs false
/-! A line's words, read into a step. -/
namespace Go.Fw
open Go.Proofs Go.Sh
variable {m m0 M : Mem} {S : List Nat} {L : List As}
def putN (s : Stp) (o : Nat) (x : Int) : Stp := if o = 1 then { s with n := x } else if o = 2 then { s with count := x } else if o = 3 then { s with client := x } else s
def putZ (s : Stp) (o : Nat) (x : List UInt8) : Stp := if o = 7 then { s with key := x } else if o = 8 then { s with fin := x } else if o = 9 then { s with old := x } else if o = 10 then { s with val := x } else s
def goN : List Nat → Stp → List (List UInt8) → Stp × List (List UInt8)
  | [], s, l => (s, l)
  | _ :: _, s, [] => (s, [])
  | o :: os, s, w :: l => goN os (putN s o (numV w)) l
def goT : List Nat → Stp → List (List UInt8) → Stp × List (List UInt8)
  | [], s, l => (s, l)
  | _ :: _, s, [] => (s, [])
  | o :: os, s, w :: l => goT os (putZ s o (textL w)) l
theorem putN_kind (s : Stp) (o : Nat) (x : Int) : (putN s o x).kind = s.kind ∧ (putN s o x).ck = s.ck ∧ (putN s o x).picks = s.picks := by unfold putN; split; simp; split; simp; split <;> simp
theorem putZ_kind (s : Stp) (o : Nat) (x : List UInt8) : (putZ s o x).kind = s.kind ∧ (putZ s o x).ck = s.ck ∧ (putZ s o x).picks = s.picks := by unfold putZ; split; simp; split; simp; split; simp; split <;> simp
theorem goN_kind : ∀ (os : List Nat) (s : Stp) (l : List (List UInt8)), (goN os s l).1.kind = s.kind ∧ (goN os s l).1.ck = s.ck ∧ (goN os s l).1.picks = s.picks ∧ (goN os s l).2.length ≤ l.length
  | [], s, l => ⟨rfl, rfl, rfl, Nat.le_refl _⟩
  | _ :: _, s, [] => ⟨rfl, rfl, rfl, Nat.le_refl _⟩
  | o :: os, s, w :: l => by
    have ih := goN_kind os (putN s o (numV w)) l
    have := putN_kind s o (numV w)
    simp only [goN, List.length_cons]
    exact ⟨ih.1.trans this.1, ih.2.1.trans this.2.1, ih.2.2.1.trans this.2.2, by omega⟩
theorem goT_kind : ∀ (os : List Nat) (s : Stp) (l : List (List UInt8)), (goT os s l).1.kind = s.kind ∧ (goT os s l).1.ck = s.ck ∧ (goT os s l).1.picks = s.picks ∧ (goT os s l).2.length ≤ l.length
  | [], s, l => ⟨rfl, rfl, rfl, Nat.le_refl _⟩
  | _ :: _, s, [] => ⟨rfl, rfl, rfl, Nat.le_refl _⟩
  | o :: os, s, w :: l => by
    have ih := goT_kind os (putZ s o (textL w)) l
    have := putZ_kind s o (textL w)
    simp only [goT, List.length_cons]
    exact ⟨ih.1.trans this.1, ih.2.1.trans this.2.1, ih.2.2.1.trans this.2.2, by omega⟩
theorem goN_nil (os : List Nat) (s : Stp) : goN os s [] = (s, []) := by cases os <;> rfl
theorem goT_nil (os : List Nat) (s : Stp) : goT os s [] = (s, []) := by cases os <;> rfl
def kdF (w : List UInt8) (a : Int × Int) (k : List UInt8 × Int × Int) : Int × Int := if k.1 = w then k.2 else a
theorem kd_fold (w : List UInt8) : kindsL.foldl (kdF w) (0, 0) = kindOf w := by
  by_cases h : ∃ k ∈ kindsL, k.1 = w
  · obtain ⟨k, hk, rfl⟩ := h
    rw [kindOf_of hk]
    simp only [kindsL, List.mem_cons, List.not_mem_nil, or_false] at hk
    rcases hk with rfl | rfl | rfl | rfl | rfl | rfl | rfl | rfl | rfl | rfl | rfl | rfl | rfl <;> decide
  · have h1 : ∀ (l : List (List UInt8 × Int × Int)) (a : Int × Int), (∀ k ∈ l, ¬ k.1 = w) → l.foldl (kdF w) a = a := fun l => by
      induction l with
      | nil => intro a _; rfl
      | cons k l ih =>
        intro a hn
        rw [List.foldl_cons, show kdF w a k = a from if_neg (hn k (List.mem_cons_self ..))]
        exact ih a fun x hx => hn x (List.mem_cons_of_mem _ hx)
    rw [h1 kindsL _ fun k hk e => h ⟨k, hk, e⟩]
    unfold kindOf
    have : kindsL.find? (fun k => decide (k.1 = w)) = none := List.find?_eq_none.2 fun k hk => by
      have := fun e => h ⟨k, hk, e⟩
      simpa using this
    rw [this]
/-- what is read, step by step -/
def readP (l : List (List UInt8)) : Stp :=
  let k := kindOf (l.headD [])
  let p := goN (nOf k.1) { Stp.zero with kind := k.1, ck := k.2 } (l.drop 1)
  let q := if k.1 = 1 then goT (tOf k.2) p.1 p.2 else p
  if k.1 = 8 then { q.1 with picks := q.2.map numV } else q.1
theorem readP_eq (l : List (List UInt8)) : readP l = readL l := by
  unfold readP readL
  generalize kindOf (l.headD []) = k
  generalize l.drop 1 = r
  obtain ⟨k1, k2⟩ := k
  simp only
  by_cases h1 : k1 = 1
  · subst h1
    have h8 : ¬ (1 : Int) = 8 := by decide
    simp only [if_true, if_neg h8, nOf]
    have key : ∀ (s : Stp) (r : List (List UInt8)), s.key = [] → s.fin = [] → s.old = [] → s.val = [] → (goT (tOf k2) s r).1 = { s with key := ht r, fin := if k2 = 5 then ht (r.drop 1) else [], old := if k2 = 4 then ht (r.drop 1) else [], val := if k2 = 2 then ht (r.drop 1) else if k2 = 4 then ht (r.drop 2) else [] } := by
      intro s r a b c d
      unfold tOf
      cases s
      simp only at a b c d
      subst a b c d
      split
      · rename_i h; subst h
        match r with
        | [] => simp [goT, ht]
        | [_] => simp [goT, putZ, ht]
        | _ :: _ :: _ => simp [goT, putZ, ht]
      · split
        · rename_i _ h; subst h
          match r with
          | [] => simp [goT, ht]
          | [_] => simp [goT, putZ, ht]
          | [_, _] => simp [goT, putZ, ht]
          | _ :: _ :: _ :: _ => simp [goT, putZ, ht]
        · split
          · rename_i _ _ h; subst h
            match r with
            | [] => simp [goT, ht]
            | [_] => simp [goT, putZ, ht]
            | _ :: _ :: _ => simp [goT, putZ, ht]
          · rename_i h2 h4 h5
            match r with
            | [] => simp [goT, ht]
            | _ :: _ => simp [goT, putZ, ht, h2, h4, h5]
    match r with
    | [] => rw [goN_nil, key _ _ rfl rfl rfl rfl]; simp [hd, readT, ht]
    | [a] => rw [show goN [3, 1] _ [a] = (putN _ 3 (numV a), []) from rfl, key _ _ rfl rfl rfl rfl]; simp [hd, readT, putN, ht]
    | a :: b :: r => rw [show goN [3, 1] _ (a :: b :: r) = (putN (putN _ 3 (numV a)) 1 (numV b), r) from rfl, key _ _ rfl rfl rfl rfl]; simp [hd, readT, putN]
  · simp only [if_neg h1]
    by_cases h7 : k1 = 7
    · subst h7
      have h8 : ¬ (7 : Int) = 8 := by decide
      simp only [if_true, if_neg h8]
      match r with
      | [] => rfl
      | [a] => rfl
      | a :: b :: r => rfl
    · have hn : nOf k1 = [1] := by unfold nOf; rw [if_neg h1, if_neg h7]
      simp only [if_neg h7, hn]
      match r with
      | [] => by_cases h8 : k1 = 8 <;> simp [goN, hd, h8]
      | a :: r => by_cases h8 : k1 = 8 <;> simp [goN, putN, hd, h8]
theorem zb_inj {a b : List UInt8} (h : zb a = zb b) : a = b := by
  have := congrArg (fun z => z.data.toList) h
  simpa [zb] using this
theorem stc_putN {s : Stp} {a : Option Addr} {n c o : Nat} (x : Int) (h : o = 1 ∨ o = 2 ∨ o = 3) : (stc s a n c).set o (.int .i64 x) = stc (putN s o x) a n c := by rcases h with rfl | rfl | rfl <;> rfl
theorem stc_putZ {s : Stp} {a : Option Addr} {n c o : Nat} (x : List UInt8) (h : o = 7 ∨ o = 8 ∨ o = 9 ∨ o = 10) : (stc s a n c).set o (strV x) = stc (putZ s o x) a n c := by rcases h with rfl | rfl | rfl | rfl <;> rfl
theorem nOf_mem {k : Int} {o : Nat} (h : o ∈ nOf k) : o = 1 ∨ o = 2 ∨ o = 3 := by
  unfold nOf at h
  split at h
  · simp at h; omega
  · split at h <;> simp at h <;> omega
theorem tOf_mem {k : Int} {o : Nat} (h : o ∈ tOf k) : o = 7 ∨ o = 8 ∨ o = 9 ∨ o = 10 := by
  unfold tOf at h
  split at h
  · simp at h; omega
  · split at h
    · simp at h; omega
    · split at h <;> simp at h <;> omega
/-- a row's first text, and the row behind it -/
theorem RdS.hdK {G : Prop} {a : Option Addr} {c : Nat} {w : List UInt8} {ls : List (List UInt8)} (h : RdS 1 sc m (.slice a (ls.length + 1) c) (w :: ls))
    (K : ∀ b o a' c', (∀ M, rd (.ixs 1) [.slice a (ls.length + 1) c, .int .i64 0] M = some (.pointer (some ⟨b, o, none⟩))) → (∀ M, Fr m M [] → cellAt (M b) o = some (strV w)) →
      (∀ M, rd (.slc 1 true false) [.slice a (ls.length + 1) c, .int .i64 1] M = some (.slice a' ls.length c')) → RdS 1 sc m (.slice a' ls.length c') ls → G) : G := by
  have h : RdS 1 sc m (.slice a (w :: ls).length c) (w :: ls) := h
  obtain ⟨b, o, h1, h2, h3⟩ := h.el (i := 0) (by simp) (by decide)
  obtain ⟨a', c', e, hr, _⟩ := h.cut (by decide) 1 (w :: ls).length (by simp) (Nat.le_refl _)
  have el : (w :: ls).length - 1 = ls.length := by simp
  rw [List.take_length, List.drop_one, List.tail_cons, el] at hr
  rw [el] at e
  have hE : El 1 sc m b o w := ⟨h.1 _, h3⟩
  refine K b o a' c' (fun M => h1 .i64 M) (fun M f => ?_) (fun M => e) hr
  have := (hE.frame f).ld0 (by decide)
  exact this
abbrev zrA (rb : Nat) : As := cellA rb (.cells (stc Stp.zero none 0 0).toArray T_api_Step (0, 0))
abbrev spA (sb : Nat) (s : Stp) (a : Option Addr) (n c : Nat) : As := cellA sb (.cells (stc s a n c).toArray T_api_Step (0, 0))
abbrev icA (a : Option Addr) (n c : Nat) (l : List Int) : As := ownA T_int 1 (.slice a n c) l.length (l.flatMap ic)
abbrev rdR (t : Stp) (u : Value) (A : As) : Prop := ∃ a c, u = .agg (stc t a t.picks.length c).toArray ∧ A = icA a t.picks.length c t.picks
abbrev rdK (t : Stp) : Value → Mem → Prop := fun u M => ∃ A, rdR t u A ∧ A.p M ∧ Fr m M [] ∧ ∀ b ∈ A.fp, m b = none
abbrev rdD : NC := .seq shell_read_r28 .ret
theorem rd_d {E : Env} {t : Stp} {a : Option Addr} {c sb rb : Nat} (e2 : E.get 2 = .pointer (some ⟨rb, 0, none⟩)) (h2 : E.has 2 = true) (e3 : E.get 3 = .pointer (some ⟨sb, 0, none⟩)) (h3 : E.has 3 = true)
    (H : Hq m M [] [spA sb t a t.picks.length c, zrA rb, icA a t.picks.length c t.picks]) : wpN Tryz.prog rdD (retP shell_read_F.rvs (rdK (m := m) t)) E M := by
  simp (disch := omega) only [go_sem, undef, e2, h2, e3, h3, H.cs]
  refine stwQ1 H rfl rfl fun M f H => ?_
  simp (disch := omega) only [go_sem, undef, e2, H.cs]
  have H := H.tail.tail
  exact ⟨_, ⟨_, _, rfl, rfl⟩, cn_end H rfl⟩
/-- one more number -/
theorem appI {x : Int} {b : Nat} {w : Value} {ls : List Int} {K : Value → Mem → Prop} {l : Lk K} {l1 : Lk w} {l2 : Lk M} (hlen : ls.length ≤ 1000000) (H : Hq m0 M S (cellA b (.cells #[.int .i64 x] T_int (0, 0)) :: ownA T_int 1 w ls.length (ls.flatMap ic) :: L))
    (hK : ∀ v M', Hq m0 M' S (ownA T_int 1 v (ls ++ [x]).length ((ls ++ [x]).flatMap ic) :: L) → K v M') : appQ Tryz.prog T_int 1 8 [.int .i64 0] w (.slice (some ⟨b, 0, none⟩) 1 1) M K l l1 l2 := by
  have h := H.hs.1
  have hb : M b = some (.cells [Value.int .i64 x].toArray T_int (0, 0)) := by with_unfolding_all exact h
  clear h
  refine appQ1 H (k := 1) rfl (ldS_cell (l := [.int .i64 x]) hb (by simp)) rfl (by simp [Value.oneCell']) rfl (by omega) (by omega) fun w2 M f H => ?_
  have H := H.tail
  refine hK w2 M ?_
  rw [show ls.length + 1 = (ls ++ [x]).length by simp, show ls.flatMap ic ++ [Value.int .i64 x].take (1 * 1) = (ls ++ [x]).flatMap ic by rw [List.flatMap_append]; rfl] at H
  exact H
abbrev rdC : NC := .seq (.seq shell_read_r22
  (.cond (.slot 76)
    (.seq shell_read_r23
    (.block 6 (.loop [2, 3, 77, 78, 79] shell_read_l3)))
    .skip)) rdD
theorem rd_c {E : Env} {t t' : Stp} {r : List (List UInt8)} {a : Option Addr} {c sb rb : Nat} (hG : Gs m) (hp : RdS 1 sc m (.slice a r.length c) r) (hr : r.length ≤ 100000) (hw : ∀ x ∈ r, x.length ≤ 1000000) (ht : t.picks = [])
    (he : t' = if t.kind = 8 then { t with picks := r.map numV } else t)
    (e0 : E.get 0 = .slice a r.length c) (h0 : E.has 0 = true) (e2 : E.get 2 = .pointer (some ⟨rb, 0, none⟩)) (h2 : E.has 2 = true) (e3 : E.get 3 = .pointer (some ⟨sb, 0, none⟩)) (h3 : E.has 3 = true)
    (H : Hq m M [] [spA sb t none 0 0, zrA rb]) : wpN Tryz.prog rdC (retP shell_read_F.rvs (rdK (m := m) t')) E M := by
  have key : ∀ E M a c, E.get 2 = .pointer (some ⟨rb, 0, none⟩) → E.has 2 = true → E.get 3 = .pointer (some ⟨sb, 0, none⟩) → E.has 3 = true → Hq m M [] [spA sb t' a t'.picks.length c, zrA rb, icA a t'.picks.length c t'.picks] → wpN Tryz.prog rdD (retP shell_read_F.rvs (rdK (m := m) t')) E M := fun E M a c e2 h2 e3 h3 H => rd_d e2 h2 e3 h3 H
  show wpN Tryz.prog (.seq (.seq shell_read_r22 (.cond (.slot 76) (.seq shell_read_r23 (.block 6 (.loop [2, 3, 77, 78, 79] shell_read_l3))) .skip)) rdD) _ _ _
  generalize hC : rdD = C at key ⊢
  by_cases h8 : t.kind = 8
  · rw [if_pos h8] at he
    simp (disch := omega) only [go_sem, undef, e0, h0, e2, h2, e3, h3, H.cs, decide_eq_true h8]
    refine loopQ_intro (fun k E m' => ∃ (j : Nat) (a1 : Option Addr) (c1 : Nat), j ≤ r.length ∧ k = r.length - j ∧ E = [(2, .pointer (some ⟨rb, 0, none⟩)), (3, .pointer (some ⟨sb, 0, none⟩)), (77, .slice a r.length c), (78, .int .i64 (r.length : Nat)), (79, .int .i64 (j : Nat))] ∧ Hq m m' [] [ownA T_int 1 (.slice a1 j c1) ((r.take j).map numV).length (((r.take j).map numV).flatMap ic), spA sb t a1 j c1, zrA rb]) r.length rfl ⟨0, none, 0, by omega, rfl, rfl, ?_⟩ ?_
    · have := H.nilRow T_int 1
      simpa using this
    clear H
    rintro k E M1 ⟨j, a1, c1, hj, rfl, rfl, H⟩
    have hlj : ((r.take j).map numV).length = j := by simp; omega
    by_cases hlt : j < r.length
    · refine RdS.elK (hp.frame H.fr) hlt (by decide) fun bx o x hx hix hE => ?_
      have hx0 : (sc x)[0]? = some (strV x) := rfl
      simp (disch := omega) only [go_sem, undef, dec_t (show ((j : Nat) : Int) < (r.length : Nat) by omega), hix, hE.ld0, hx0, H.cs]
      refine callQ H (number_s x (hw x (List.mem_of_getElem? hx)) (hG.fr H.fr)) fun M f H => ?_
      simp (disch := omega) only [go_sem, undef, H.cs]
      refine newQ H fun b M f H => ?_
      simp (disch := omega) only [go_sem, undef, H.cs]
      refine appI (by omega) H fun w2 M H => ?_
      have ho := H.hs.1
      refine Own.formK ho fun a2 c2 ew => ?_
      subst ew
      simp (disch := omega) only [go_sem, undef, H.cs]
      refine wrQ1 H fun M f H => ?_
      simp (disch := omega) only [go_sem, undef]
      have htk : r.take (j + 1) = r.take j ++ [x] := by rw [List.take_add_one, hx]; rfl
      refine handN_intro (r.length - (j + 1)) (by omega) ⟨j + 1, a2, c2, by omega, rfl, rfl, ?_⟩
      have hl2 : (List.map numV (List.take j r) ++ [numV x]).length = j + 1 := by rw [List.length_append, hlj]; rfl
      have hl3 : (List.take j r).length + 1 = j + 1 := by rw [List.length_take]; omega
      rw [htk, List.map_append, show List.map numV [x] = [numV x] from rfl]
      rw [hl3] at H
      rw [hl2] at H ⊢
      exact H
    · have e : j = r.length := by omega
      subst e
      simp (disch := omega) only [go_sem, undef, dec_f (show ¬ ((r.length : Nat) : Int) < (r.length : Nat) by omega)]
      subst he
      refine key _ _ a1 c1 rfl rfl rfl rfl ?_
      rw [List.take_length] at H
      rw [show ({ t with picks := r.map numV } : Stp).picks = r.map numV from rfl]
      have hlm : (r.map numV).length = r.length := List.length_map ..
      rw [hlm] at H
      unfold icA
      rw [hlm]
      exact H.perm (List.perm_append_comm (l₁ := [_, _]) (l₂ := [_]))
  · rw [if_neg h8] at he
    simp (disch := omega) only [go_sem, undef, e0, h0, e2, h2, e3, h3, H.cs, decide_eq_false h8]
    subst he
    have H := H.nilRow T_int 1
    refine key _ _ none 0 rfl rfl rfl rfl ?_
    rw [ht]
    exact H.perm (List.perm_append_comm (l₁ := [_, _]) (l₂ := [_]))
end Go.Fw
