import Derived.Test.YtncllenandjphaaInPlays2
namespace Go.Fw
open Go.Proofs
def playsLook : NC := .seq iplays_r30 (.cond (.slot 132) (.seq iplays_r31 .ret) .skip)
def playsOne : NC := .seq iplays_r20 (.cond (.slot 87) (.seq iplays_r21 .ret) .skip)
def playsRest : NC := .seq iplays_r22 (.cond (.slot 88)
      (.seq (.seq iplays_r23 (.cond (.slot 98) (.seq iplays_r24 .ret) .skip))
      (.seq iplays_r25 (.cond (.slot 99) iplays_r26 .skip)))
      (.seq iplays_r27 (.cond (.slot 110) (.seq iplays_r28 (.cond (.slot 120) (.seq iplays_r29 .ret) .skip)) .skip)))
theorem callable19 : callable Try.prog 19 = true := by kernel_rfl

theorem PS.perm_mem {m m' : Mem} {s v : Value} {sb sr wb : Nat} {S W : List (Int × Int)} (h : PS m m' s sb sr wb S W v) (i : Int × Int) : i ∈ S ↔ i ∈ W := h.perm.mem_iff

set_option maxHeartbeats 2000000 in
/-- kind 1: laid in -/
theorem one_spec {m m' : Mem} {ps s v : Value} {sb sr wb n : Nat} {S W : List (Int × Int)} {l : List (Int × Int × Int)} {E : Env} {Q : Exit → Env → Mem → Prop} (h : PS m m' s sb sr wb S W v) (hl : W.length < 999) (hA : RdA m ps l) (hn : n < l.length)
    (hE : hasAll E [1, 5, 6, 7, 9] = true) (h1 : E.get 1 = ps) (h5 : E.get 5 = s) (h6 : E.get 6 = .pointer (some ⟨wb, 0, none⟩)) (h7 : E.get 7 = fnV wb) (h9 : E.get 9 = .int .i64 (n : Nat))
    (hQ : ∀ m2 v2, PS m m2 s sb sr wb (addL S l[n].2) (insA l[n].2 W) v2 → Q .normal [(1, ps), (5, s), (6, .pointer (some ⟨wb, 0, none⟩)), (7, fnV wb), (9, .int .i64 (n : Nat)), (87, .bool false)] m2) :
    wpN Try.prog playsOne Q E m' := by
  obtain ⟨e1, e2, e3, e4, e5⟩ := h.ne
  obtain ⟨b2, o2, c2, rfl, k1, k2, k3⟩ := (hA.frame h.fr).at hn
  unfold playsOne
  simp (disch := omega) only [go_sem, hE, h1, h5, h6, h7, h9, k2, k3]
  refine call_with (add_spec h.set l[n].2) ?_
  rintro u m1 ⟨rfl, hs1, f1⟩
  obtain ⟨b3, o3, c3, e, j1, j2, j3⟩ := (hA.frame h.fr).at hn
  have kk2 : cellAt (m1 b2) (o2 + n * 3 + 1) = some (.int .i64 l[n].2.1) := f1.cellAt k2 (by
    simp only [List.mem_singleton]; rintro rfl
    obtain ⟨es, cl, hm, _⟩ := h.set.map
    rw [hm] at k2; cases k2)
  have kk3 : cellAt (m1 b2) (o2 + n * 3 + 1 + 1) = some (.int .i64 l[n].2.2) := f1.cellAt k3 (by
    simp only [List.mem_singleton]; rintro rfl
    obtain ⟨es, cl, hm, _⟩ := h.set.map
    rw [hm] at k3; cases k3)
  simp (disch := omega) only [go_sem, kk2, kk3, fnV, xs_callv, callable19, h1, h5, h6, h7, h9]
  have hcell := f1.get h.cell (by simpa using e2)
  have hrow := h.row.frame f1 (fun b hb hx => by simp at hx; subst hx; exact e4 hb)
  refine call_with (padd_spec l[n].2 hcell hrow h.asc (by omega)) ?_
  rintro u m2 ⟨rfl, v', g1, g2, g3, g4⟩
  have hmm : decide (l[n].2 ∉ S) = decide (l[n].2 ∉ W) := decide_eq_decide.2 (not_congr (h.perm_mem _))
  simp (disch := omega) only [go_sem, hmm, bne_self_eq_false, h1, h5, h6, h7, h9]
  refine hQ m2 v' ⟨hs1.frame g3 (by simpa using Ne.symm e1) (by simpa using Ne.symm e2), g1, g2, insA_asc h.asc _, insA_perm _ h.perm, ?_, h.n1, h.n2, h.n3, fun b hb => ?_⟩
  · have fa := h.fr.trans f1 (T := [sr]) (fun x hx hx0 => by simp at hx; subst hx; exact absurd h.n2 hx0)
    exact fa.trans g3 (fun x hx hx0 => by simp at hx; subst hx; exact absurd h.n3 hx0)
  · have fa := h.fr.trans f1 (T := [sr]) (fun x hx hx0 => by simp at hx; subst hx; exact absurd h.n2 hx0)
    rcases (g4 b hb).2 with h8 | h8
    · exact h.n4 b h8
    · exact fresh_fr fa h8

structure EnvOk (E : Env) (ps s : Value) (wb n : Nat) : Prop where
  has : hasAll E [1, 5, 6, 7, 9] = true
  e1 : E.get 1 = ps
  e5 : E.get 5 = s
  e6 : E.get 6 = .pointer (some ⟨wb, 0, none⟩)
  e7 : E.get 7 = fnV wb
  e9 : E.get 9 = .int .i64 (n : Nat)

theorem filter_ne {W : List (Int × Int)} (h : Asc W) {k : Nat} (hk : k < W.length) : W.filter (· ≠ W[k]) = W.take k ++ W.drop (k + 1) := by
  have hnd : W.Nodup := h.imp fun {a b} hab e => by subst e; unfold lt2 at hab; omega
  have e := List.take_append_drop k W
  have e2 : W.drop k = W[k] :: W.drop (k + 1) := List.drop_eq_getElem_cons hk
  have hn2 : W = W.take k ++ W[k] :: W.drop (k + 1) := by rw [← e2, e]
  have hnd2 : (W.take k ++ W[k] :: W.drop (k + 1)).Nodup := by rw [← hn2]; exact hnd
  obtain ⟨n1, n2, n3⟩ := List.nodup_append.1 hnd2
  have n4 := List.nodup_cons.1 n2
  generalize W[k] = x at *
  conv => lhs; rw [hn2]
  rw [List.filter_append, List.filter_cons]
  simp only [ne_eq, not_true_eq_false, decide_false, Bool.false_eq_true, if_false]
  congr 1
  · exact List.filter_eq_self.2 fun p hp => by
      simp only [decide_not, Bool.not_eq_true', decide_eq_false_iff_not]
      rintro rfl
      exact n3 p hp p (List.mem_cons_self ..) rfl
  · exact List.filter_eq_self.2 fun p hp => by
      simp only [decide_not, Bool.not_eq_true', decide_eq_false_iff_not]
      rintro rfl
      exact n4.1 hp

set_option maxHeartbeats 2000000 in
/-- what is struck from the list -/
theorem strike_spec {m m' : Mem} {ps s v : Value} {sb sr wb n k : Nat} {S S2 W : List (Int × Int)} {E : Env} {Q : Exit → Env → Mem → Prop} (hs : SetIs m' s sb sr S2) (hc0 : m' wb = some (.cells #[v] 29 (0, 0))) (ho : Own m' 25 2 v W.length (prs W)) (ha : Asc W) (hp : S2.Perm (W.take k ++ W.drop (k + 1)))
    (f : Fr m m' []) (h1 : m sb = none) (h2 : m sr = none) (h3 : m wb = none) (h4 : ∀ b ∈ blkOf v, m b = none) (e1 : wb ≠ sb) (e2 : wb ≠ sr) (e5 : wb ∉ blkOf v) (hl : W.length < 999) (hk : k < W.length)
    (hE : EnvOk E ps s wb n) (hEh : hasAll E [1, 5, 6, 7, 9, 10] = true) (h10 : E.get 10 = .int .i64 (k : Nat))
    (hQ : ∀ m2 v2, PS m m2 s sb sr wb S2 (W.take k ++ W.drop (k + 1)) v2 → Q .normal [(1, ps), (5, s), (6, .pointer (some ⟨wb, 0, none⟩)), (7, fnV wb), (9, .int .i64 (n : Nat))] m2) :
    wpN Try.prog iplays_r26 Q E m' := by
  obtain ⟨_, g1, g5, g6, g7, g9⟩ := hE
  obtain ⟨a, c, rfl⟩ := ho.form
  obtain ⟨hc, ht, _⟩ := own_cut ho (Nat.le_of_lt hk)
  obtain ⟨_, _, hd⟩ := own_cut ho (k := k + 1) hk
  have hcut1 : cutS 2 a c 0 (k : Int) = some (.slice a k c) := by rw [cutS_0 _ _ _ _ ⟨by omega, by omega⟩]; simp
  have hcut2 : cutS 2 a c ((k : Int) + 1) (W.length : Int) = some (.slice (if c = k + 1 then a else a.map (·.add ((k + 1) * 2))) (W.length - (k + 1)) (c - (k + 1))) := by
    rw [cutS_in _ _ _ _ _ ⟨by omega, by omega, by omega⟩]
    have : ((k : Int) + 1).toNat = k + 1 := by omega
    simp [this]
  have hin : ∀ x, a = some x → m' x.block ≠ none := fun x hx => ho.there x.block (by rw [hx]; simp [blkOf])
  generalize hA2 : (if c = k + 1 then a else a.map (·.add ((k + 1) * 2))) = A2 at hd hcut2
  have hin2 : ∀ x, A2 = some x → m' x.block ≠ none := by
    intro x hx
    rw [← hA2] at hx
    split at hx
    · exact hin x hx
    · obtain ⟨y, hy, rfl⟩ := Option.map_eq_some_iff.1 hx
      have : (y.add ((k + 1) * 2)).block = y.block := by unfold Addr.add; split <;> rfl
      rw [this]; exact hin y hy
  have drop : ∀ {N N' : Mem} {T : List Nat}, Fr m' N [] → Fr N N' T → (∀ x ∈ T, m' x = none) → Fr m' N' [] := fun g f' hS => g.trans f' (fun x hx hx0 => absurd (hS x hx) hx0)
  simp (disch := omega) only [go_sem, hEh, g1, g5, g6, g7, g9, h10, hc0, hcut1, hcut2]
  refine newP_intro fun b2 hb2 => ?_
  have q1 : Fr m' (m'.set b2 (.cells #[] 25 (0, 0))) [] := Fr.new _ hb2
  have k2 := set_self (m := m') b2 (.cells #[] 25 (0, 0))
  generalize m'.set b2 (.cells #[] 25 (0, 0)) = N1 at q1 k2 ⊢
  have kw := q1.get0 hc0
  simp (disch := omega) only [go_sem, g1, g5, g6, g7, g9, h10, kw]
  have o0 : Own N1 25 2 (.slice (some ⟨b2, 0, none⟩) 0 0) 0 [] := ⟨rfl, .inr ⟨b2, 0, [], rfl, k2, rfl⟩⟩
  refine app_own (k := k) o0 rfl (ldS_frame ht q1 (fun x hx => by simp)) (by rw [prs_len, List.length_take]; omega) (prs_one _) rfl (by omega) (by omega) ?_
  intro v3 N2 o3 f3 hb3
  have q2 := drop q1 f3 (fun x hx => by simp [blkOf] at hx; subst hx; exact hb2)
  have hv3 : ∀ b ∈ blkOf v3, m' b = none := fun b hb => (hb3 b hb).elim (fun e => by simp [blkOf] at e; subst e; exact hb2) (fresh_fr q1)
  have kw := q2.get0 hc0
  simp (disch := omega) only [go_sem, g1, g5, g6, g7, g9, h10, kw]
  refine app_own (k := W.length - (k + 1)) o3 rfl (ldS_frame hd q2 (fun x hx => by simp)) (by rw [prs_len, List.length_drop]) (prs_one _) rfl (by omega) (by omega) ?_
  intro v4 N3 o4 f4 hb4
  have q3 := drop q2 f4 hv3
  have hv4 : ∀ b ∈ blkOf v4, m' b = none := fun b hb => (hb4 b hb).elim (hv3 b) (fresh_fr q2)
  have kw := q3.get0 hc0
  have o5 : Own N3 25 2 v4 (W.take k ++ W.drop (k + 1)).length (prs (W.take k ++ W.drop (k + 1))) := by
    have el : (W.take k ++ W.drop (k + 1)).length = 0 + k + (W.length - (k + 1)) := by simp; omega
    rw [el, prs_app]; simpa using o4
  have hne : ∀ b ∈ blkOf v4, b ≠ wb := fun b hb e => by
    have := hv4 b hb
    rw [e, hc0] at this; cases this
  have hasc : Asc (W.take k ++ W.drop (k + 1)) := by
    rw [← filter_ne ha hk]; exact ha.filter _
  have hfin : PS m (N3.set wb (.cells #[v4] 29 (0, 0))) s sb sr wb S2 (W.take k ++ W.drop (k + 1)) v4 :=
    ⟨(hs.frame q3 (by simp) (by simp)).frame (S := [wb]) (Fr.set (by simp)) (by simpa using Ne.symm e1) (by simpa using Ne.symm e2), set_self _ _, o5.frame (S := [wb]) (Fr.set (by simp)) (fun b hb hx => hne b hb (by simpa using hx)), hasc, hp,
      (f.trans0 q3).trans (Fr.set (S := [wb]) (by simp)) (fun x hx hx0 => by simp at hx; subst hx; exact absurd h3 hx0), h1, h2, h3, fun b hb => fresh_fr f (hv4 b hb)⟩
  have := hQ _ v4 hfin
  obtain ⟨a5, c5, rfl⟩ := o5.form
  simp (disch := simp) only [go_sem, kw, g1, g5, g6, g7, g9]
  exact this
end Go.Fw
