import Derived.Test.YtnpldldflbeogaaGrSmall
namespace Go.Fw
open Go.Proofs

theorem nats_len (l : List Nat) : (nats l).length = l.length := by simp [nats]
theorem Own.last {m : Mem} {v : Value} {l0 : List Nat} {x : Nat} (h : Own m 3 1 v (l0.length + 1) (nats (l0 ++ [x]))) :
    ∃ b c, v = .slice (some ⟨b, 0, none⟩) (l0.length + 1) c ∧ cellAt (m b) l0.length = some (.int .i64 (x : Nat)) ∧ l0.length + 1 ≤ c ∧ Own m 3 1 (.slice (some ⟨b, 0, none⟩) l0.length c) l0.length (nats l0) := by
  obtain ⟨b, cap, tail, rfl, hb, hc, hl⟩ := h.row (by omega)
  refine ⟨b, cap, rfl, ?_, by omega, ?_⟩
  · rw [hb, cellAt_cells, List.getElem?_toArray, List.getElem?_append_left (by simp [nats_len])]
    simp [nats]
  · have := h.shrink (k := l0.length) (by omega) (by omega)
    simpa [nats, List.map_append] using this

/-- how many are not seen yet -/
def un (s : Nat → Bool) : Nat → Nat
  | 0 => 0
  | n + 1 => un s n + if s n = false then 1 else 0
theorem un_up (s : Nat → Bool) (y : Nat) (hy : s y = false) : ∀ n, un (Up s y true) n + (if y < n then 1 else 0) = un s n
  | 0 => by simp [un]
  | n + 1 => by
    have ih := un_up s y hy n
    simp only [un]
    by_cases e : n = y
    · subst e
      rw [Up_self, hy]
      simp at ih ⊢; omega
    · rw [Up_ne _ e]
      by_cases h : y < n
      · rw [if_pos h] at ih; rw [if_pos (show y < n + 1 by omega)]; omega
      · rw [if_neg h] at ih; rw [if_neg (show ¬ y < n + 1 by omega)]; omega
theorem un_le (s : Nat → Bool) : ∀ n, un s n ≤ n
  | 0 => by simp [un]
  | n + 1 => by have := un_le s n; simp only [un]; split <;> omega

structure CI (k : Nat) (E : Nat → List Int) (r : Nat) (s : Nat → Bool) (l : List Nat) : Prop where
  src : s r = true
  sound : ∀ x, x < k → s x = true → Rch k E r x
  lin : ∀ x ∈ l, x < k ∧ s x = true
  room : l.length + un s k ≤ k

theorem rch_lt {k : Nat} {E : Nat → List Int} {u v : Nat} (h : Rch k E u v) (hu : u < k) : v < k :=
  closed_rch (T := fun y => y < k) (fun _ _ _ ha => ha.2.1) h hu

set_option maxHeartbeats 2000000 in
theorem comes_spec (m : Mem) (k : Nat) (ev : Value) (E : Nat → List Int) (hk : k ≤ 512) (hg : GRd m k ev E) (r t : Nat) (hr : r < k) (ht : t < k) :
    MC Try.prog 15 [ev, .int .i64 (r : Nat), .int .i64 (t : Nat)] m fun v m' => (∃ q, v = .bool q ∧ (q = true ↔ Rch k E r t)) ∧ Fr m m' [] := by
  obtain ⟨ea, ec, L, rfl, hL, hLr, hLv⟩ := hg
  refine MC_start Try.func15 comes_ok (by kernel_rfl) (by simp [Try.f15]) ?_
  simp (disch := omega) only [go_sem]
  refine newP_intro fun bs hbs => ?_
  simp (disch := omega) only [go_sem]
  refine newP_intro fun bl hbl => ?_
  obtain ⟨hne, hbl0⟩ := new_ne hbl
  have f0 : Fr m ((m.set bs (.cells (rb k (Up (fun _ => false) r true)).toArray 4)).set bl (.cells [Value.int .i64 (r : Nat)].toArray 3)) [] := (Fr.new _ hbs).trans0 (Fr.new _ hbl)
  simp (disch := omega) only [go_sem]
  refine loopQ_intro (fun g Ev m' => ∃ (s : Nat → Bool) (l : List Nat) (lv : Value), g = 2 * un s k + l.length ∧ Ev = [(0, .slice ea k ec), (2, .int .i64 (t : Nat)), (7, .slice (some ⟨bs, 0, none⟩) k k), (8, lv)] ∧
    m' bs = some (.cells (rb k s).toArray 4 (0, 0)) ∧ Own m' 3 1 lv l.length (nats l) ∧ (∀ b ∈ blkOf lv, m b = none ∧ b ≠ bs) ∧ Fr m m' [] ∧ CI k E r s l ∧
    ∀ x y, x < k → s x = true → x ∉ l → Adj k E x y → s y = true) (2 * un (Up (fun _ => false) r true) k + 1) rfl ⟨_, [r], _, rfl, rfl, ?_, ?_, ?_, f0, ⟨Up_self _ _ _, ?_, ?_, ?_⟩, ?_⟩ ?_
  · simp (disch := omega) only [go_sem]
  · exact Own.new (xs := [.int .i64 (r : Nat)]) rfl
  · intro b hb; have : b = bl := by simpa [Env.get, only, blkOf] using hb
    subst this; exact ⟨hbl0, hne⟩
  · intro x hx hs
    by_cases e : x = r
    · subst e; exact .refl _
    · rw [Up_ne _ e] at hs; cases hs
  · intro x hx; simp only [List.mem_singleton] at hx; subst hx; exact ⟨hr, Up_self _ _ _⟩
  · have := un_up (fun _ => false) r rfl k
    rw [if_pos hr] at this
    have := un_le (fun _ => false) k
    simp only [List.length_singleton]; omega
  · intro x y hx hs hn
    by_cases e : x = r
    · subst e; exact absurd (List.mem_singleton.2 rfl) hn
    · rw [Up_ne _ e] at hs; cases hs
  rintro g Ev m1 ⟨s, l, lv, rfl, rfl, hs1, ho1, hb1, f1, ci, clo⟩
  obtain ⟨la, lc, rfl⟩ := ho1.form
  simp (disch := omega) only [go_sem]
  refine condB_dec (fun h => ?_) (fun h => ?_)
  · rcases List.eq_nil_or_concat l with rfl | ⟨l0, x, rfl⟩
    · simp at h
    simp only [List.concat_eq_append, List.length_append, List.length_cons, List.length_nil, Nat.zero_add] at *
    obtain ⟨b, c, e, hx, hc, ho0⟩ := ho1.last
    cases e
    have hxk := ci.lin x (by simp)
    have hroom := ci.room
    simp only [List.length_append, List.length_cons, List.length_nil, Nat.zero_add] at hroom
    simp (disch := omega) only [go_sem, List.concat_eq_append, List.length_append, hx, IntWalk.toNatUp, Nat.add_sub_cancel, Int.natCast_add, Int.natCast_one]
    generalize hgh : 2 * un s k + (l0.concat x).length = gh
    simp only [List.concat_eq_append, List.length_append, List.length_cons, List.length_nil, Nat.zero_add] at hgh
    refine loopQ_intro (fun g Ev m' => ∃ (j : Nat) (s : Nat → Bool) (l : List Nat) (lv : Value), j ≤ (E x).length ∧ g = (E x).length - j ∧ Ev = [(0, .slice ea k ec), (2, .int .i64 (t : Nat)), (7, .slice (some ⟨bs, 0, none⟩) k k), (8, lv), (9, .int .i64 (x : Nat)), (10, .int .i64 (j : Nat))] ∧
      m' bs = some (.cells (rb k s).toArray 4 (0, 0)) ∧ Own m' 3 1 lv l.length (nats l) ∧ (∀ b ∈ blkOf lv, m b = none ∧ b ≠ bs) ∧ Fr m m' [] ∧ CI k E r s l ∧ s x = true ∧ 2 * un s k + l.length < gh ∧
      (∀ z y, z < k → s z = true → z ∉ l → z ≠ x → Adj k E z y → s y = true) ∧ (∀ y : Nat, y < k → (y : Int) ∈ (E x).take j → s y = true)) (E x).length rfl
      ⟨0, s, l0, _, by omega, by omega, rfl, hs1, ho0, ?_, f1, ⟨ci.src, ci.sound, fun z hz => ci.lin z (by simp [hz]), by omega⟩, hxk.2, by omega, fun z y h1 h2 h3 h4 h5 => clo z y h1 h2 (by simp [h3, h4]) h5, by simp⟩ ?_
    · intro b' hb'; exact hb1 b' (by simpa [Env.get, only, blkOf] using hb')
    clear ho0 hx hs1 ho1 hb1 ci clo hroom hc f1 hgh
    rintro g Ev m2 ⟨j, s2, l, lv, hj, rfl, rfl, hs2, ho2, hb2, f2, ci, hsx, hgh, clo, hed⟩
    obtain ⟨hxl, xa, xc, hLx, hxr⟩ := hLv x hxk.1
    obtain ⟨b1, o1, rfl, hc1⟩ := (hLr.frame f2).at (i := x) (by omega)
    rw [List.getElem?_eq_getElem (by omega), Option.some.injEq] at hLx
    rw [hLx] at hc1
    have hroom := ci.room
    obtain ⟨la, lc2, rfl⟩ := ho2.form
    simp (disch := omega) only [go_sem, hc1]
    refine condB_dec (fun h2 => ?_) (fun h2 => ?_)
    · obtain ⟨b3, o3, rfl, hc3⟩ := (hxr.frame f2).at (i := j) (by simp [ints]; omega)
      obtain ⟨y, hy⟩ : ∃ y, (E x)[j]'(by omega) = y := ⟨_, rfl⟩
      have htk : (E x).take (j + 1) = (E x).take j ++ [y] := by rw [List.take_succ_eq_append_getElem (by omega), hy]
      simp only [ints, List.getElem_map, hy] at hc3
      have skip : (∀ z : Nat, y = z → z < k → s2 z = true) → ∀ z : Nat, z < k → (z : Int) ∈ (E x).take (j + 1) → s2 z = true := fun hz z h1 h2 => by
        rw [htk, List.mem_append, List.mem_singleton] at h2
        rcases h2 with h2 | h2
        · exact hed z h1 h2
        · exact hz z h2.symm h1
      by_cases hy0 : 0 ≤ y
      · obtain ⟨z, rfl⟩ := Int.eq_ofNat_of_zero_le hy0
        by_cases hzk : z < k
        · cases hsz : s2 z with
          | true =>
            simp (disch := omega) only [go_sem, hc1, hc3, hs2, dec_t, dec_f, if_true, hsz, Bool.not_true]
            exact handN_intro ((E x).length - (j + 1)) (by omega) ⟨j + 1, s2, l, _, by omega, rfl, rfl, hs2, ho2, hb2, f2, ci, hsx, hgh, clo, skip fun w e _ => by
              have : w = z := by omega
              subst this; exact hsz⟩
          | false =>
            have hun := un_up s2 z hsz k
            rw [if_pos hzk] at hun
            simp (disch := omega) only [go_sem, hc1, hc3, hs2, dec_t, dec_f, if_true, hsz, Bool.not_false]
            refine newP_intro fun bn hbn => ?_
            obtain ⟨hbns, hbn2⟩ := new_ne hbn
            simp (disch := omega) only [go_sem]
            generalize hm3 : Mem.set (Mem.set m2 bs _) bn _ = m3
            have f3 : Fr m2 m3 [bs] := by
              intro q hq hqs
              simp only [List.mem_singleton] at hqs
              rw [← hm3, set_ne _ _ _ (fun e => by subst e; exact hq hbn2), set_ne _ _ _ hqs]
            have c3 : m3 bs = some (.cells (rb k (Up s2 z true)).toArray 4 (0, 0)) := by
              rw [← hm3, set_ne _ _ _ (Ne.symm hbns), set_self]
            have cn : m3 bn = some (.cells [Value.int .i64 (z : Nat)].toArray 3 (0, 0)) := by rw [← hm3, set_self]
            clear hm3
            have hroom := ci.room
            refine app_own (n := l.length) (k := 1) (c := 1) (news := [.int .i64 (z : Nat)]) (xs := nats l) (ho2.frame f3 (fun q hq => by simpa using (hb2 q hq).2)) rfl ?_ rfl (by simp [Value.oneCell']) rfl (by omega) (by omega) ?_
            · simp (disch := omega) only [go_sem, ldS, cn]
            intro w4 m4 ho4 f4 hb4
            simp (disch := omega) only [go_sem]
            have hbl4 : ∀ q ∈ blkOf w4, m q = none ∧ q ≠ bs := fun q hq => by
              rcases hb4 q hq with h5 | h5
              · exact hb2 q h5
              · refine ⟨?_, fun e => by rw [e, c3] at h5; cases h5⟩
                cases hmq : m q with
                | none => rfl
                | some o =>
                  have := f3.get (f2.get0 hmq) (by simp only [List.mem_singleton]; rintro rfl; rw [hbs] at hmq; cases hmq)
                  rw [this] at h5; cases h5
            refine handN_intro ((E x).length - (j + 1)) (by omega) ⟨j + 1, Up s2 z true, l ++ [z], w4, by omega, rfl, rfl, ?_, ?_, hbl4, ?_, ⟨?_, fun w hw hsw => ?_, fun w hw => ?_, ?_⟩, ?_, ?_, fun w v hw hsw hwl hwx ha => ?_, fun w hw hm => ?_⟩
            · exact f4.get c3 (fun hq => (hb2 _ hq).2 rfl)
            · simpa [nats] using ho4
            · refine (f2.trans f3 (fun q hq hq0 => ?_)).trans f4 (fun q hq hq0 => (hq0 (hb2 q hq).1).elim)
              simp only [List.mem_singleton] at hq; rw [hq] at hq0; exact (hq0 hbs).elim
            · by_cases e : r = z
              · rw [e, Up_self]
              · rw [Up_ne _ e]; exact ci.src
            · by_cases e : w = z
              · subst e
                exact (ci.sound x hxk.1 hsx).trans (.one ⟨hxk.1, hw, by rw [← hy]; exact List.getElem_mem _⟩)
              · rw [Up_ne _ e] at hsw; exact ci.sound w hw hsw
            · rcases List.mem_append.1 hw with h5 | h5
              · refine ⟨(ci.lin w h5).1, ?_⟩
                by_cases e : w = z
                · rw [e, Up_self]
                · rw [Up_ne _ e]; exact (ci.lin w h5).2
              · simp only [List.mem_singleton] at h5; subst h5; exact ⟨hzk, Up_self _ _ _⟩
            · simp only [List.length_append, List.length_singleton]; omega
            · by_cases e : x = z
              · rw [e, Up_self]
              · rw [Up_ne _ e]; exact hsx
            · simp only [List.length_append, List.length_singleton]; omega
            · simp only [List.mem_append, List.mem_singleton, not_or] at hwl
              by_cases e : v = z
              · rw [e, Up_self]
              · rw [Up_ne _ e]
                rw [Up_ne _ hwl.2] at hsw
                exact clo w v hw hsw hwl.1 hwx ha
            · by_cases e : w = z
              · rw [e, Up_self]
              · rw [Up_ne _ e]
                rw [htk, List.mem_append, List.mem_singleton] at hm
                rcases hm with hm | hm
                · exact hed w hw hm
                · exact absurd (by omega) e
        · simp (disch := omega) only [go_sem, hc1, hc3, hs2, dec_t, dec_f, if_true, if_false, undef]
          exact handN_intro ((E x).length - (j + 1)) (by omega) ⟨j + 1, s2, l, _, by omega, rfl, rfl, hs2, ho2, hb2, f2, ci, hsx, hgh, clo, skip fun w e hw => absurd hw (by omega)⟩
      · simp (disch := omega) only [go_sem, hc1, hc3, hs2, dec_t, dec_f, if_true, if_false, undef]
        exact handN_intro ((E x).length - (j + 1)) (by omega) ⟨j + 1, s2, l, _, by omega, rfl, rfl, hs2, ho2, hb2, f2, ci, hsx, hgh, clo, skip fun w e hw => absurd e (by omega)⟩
    · have hje : (E x).length = j := by omega
      simp (disch := omega) only [go_sem]
      refine handN_intro (2 * un s2 k + l.length) (by omega) ⟨s2, l, _, rfl, rfl, hs2, ho2, hb2, f2, ci, fun z y hz hsz hzl ha => ?_⟩
      by_cases e : z = x
      · subst e
        exact hed y ha.2.1 (by rw [← hje, List.take_length]; exact ha.2.2)
      · exact clo z y hz hsz hzl e ha
  · have hl0 : l = [] := List.eq_nil_of_length_eq_zero (by omega)
    subst hl0
    simp (disch := omega) only [go_sem, hs1]
    refine post_intro ⟨⟨s t, rfl, fun h5 => ci.sound t ht h5, fun h5 => ?_⟩, f1⟩
    refine closed_rch (T := fun y => s y = true) (fun u v hu ha => ?_) h5 ci.src
    exact clo u v ha.1 hu (by simp) ha
end Go.Fw
