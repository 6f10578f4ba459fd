import Derived.Test.YtnpldldflbeogaaGrRing
namespace Go.Fw
open Go.Proofs

/-- what one node reaches is reckoned in its row bs -/
theorem reach_l1_ok (m m0 : Mem) (k : Nat) (ea : Option Addr) (ec : Nat) (E : Nat → List Int) (L : List Value) (hk : k ≤ 512) (hL : L.length = k) (hLr : Rd1 m ea L)
    (hLv : ∀ v, v < k → (E v).length ≤ 1048576 ∧ ∃ a' c', L[v]? = some (.slice a' (E v).length c') ∧ Rd1 m a' (ints (E v))) (r br bs : Nat) (hr : r < k)
    (fm : Fr m m0 []) (hbs0 : m bs = none) (hs0 : m0 bs = some (.cells (rb k fun _ => false).toArray 4 (0, 0))) (hbr0 : cellAt (m0 br) r = some (.slice (some ⟨bs, 0, none⟩) k k)) (hne : br ≠ bs)
    (Q : Exit → Env → Mem → Prop) (hQ : ∀ (m' : Mem) (s : Nat → Bool) (x6 x34 : Value), m' bs = some (.cells (rb k s).toArray 4 (0, 0)) → Fr m0 m' [bs] → (∀ v, v < k → (s v = true ↔ Rch k E r v)) →
      Q .normal [(0, .slice ea k ec), (3, .int .i64 (k : Nat)), (4, .slice (some ⟨br, 0, none⟩) k k), (5, .int .i64 (r : Nat)), (6, x6), (34, x34)] m') :
    wpN Try.prog (.seq reach_r6 (.seq reach_r7 (.block 2 (.loop [0, 3, 4, 5, 6] reach_l1)))) Q [(0, .slice ea k ec), (3, .int .i64 (k : Nat)), (4, .slice (some ⟨br, 0, none⟩) k k), (5, .int .i64 (r : Nat))] m0 := by
  have hnb : ∀ q, m0 q = none → q ≠ bs := fun q hq e => by rw [e, hs0] at hq; cases hq
  have hfm : ∀ m' : Mem, Fr m0 m' [bs] → Fr m m' [] := fun m' f => fm.trans f (fun x hx hx0 => by simp only [List.mem_singleton] at hx; subst hx; exact (hx0 hbs0).elim)
  have hbrf : ∀ m' : Mem, Fr m0 m' [bs] → cellAt (m' br) r = some (.slice (some ⟨bs, 0, none⟩) k k) := fun m' f => f.cellAt hbr0 (by simpa using hne)
  simp (disch := omega) only [go_sem]
  refine newP_intro fun bl hbl => ?_
  have hblbs := hnb bl hbl
  have hbr0' : cellAt ((m0.set bl (.cells [Value.int .i64 (r : Nat)].toArray 3)) br) r = some (.slice (some ⟨bs, 0, none⟩) k k) := (Fr.new [] hbl).cellAt hbr0 (by simp)
  simp (disch := omega) only [go_sem, hbr0', hs0]
  refine loopQ_intro (fun g Ev m' => ∃ (s : Nat → Bool) (l : List Nat) (lv : Value), g = 2 * un s k + l.length ∧ Ev = [(0, .slice ea k ec), (3, .int .i64 (k : Nat)), (4, .slice (some ⟨br, 0, none⟩) k k), (5, .int .i64 (r : Nat)), (6, lv)] ∧
    m' bs = some (.cells (rb k s).toArray 4 (0, 0)) ∧ Own m' 3 1 lv l.length (nats l) ∧ (∀ b ∈ blkOf lv, m0 b = none) ∧ Fr m0 m' [bs] ∧ CI k E r s l ∧
    ∀ x y, x < k → s x = true → x ∉ l → Adj k E x y → s y = true) (2 * un (Up (fun _ => false) r true) k + 1) rfl ⟨_, [r], _, rfl, rfl, ?_, ?_, ?_, ?_, ⟨Up_self _ _ _, ?_, ?_, ?_⟩, ?_⟩ ?_
  · simp (disch := omega) only [go_sem]
  · refine Own.frame (S := [bs]) (Own.new (xs := [.int .i64 (r : Nat)]) rfl) (Fr.set (by simp)) (by
      intro b hb
      have : b = bl := by simpa [Env.get, only, blkOf] using hb
      subst this; simpa using hblbs)
  · intro b hb
    have : b = bl := by simpa [Env.get, only, blkOf] using hb
    subst this; exact hbl
  · exact (Fr.new [bs] hbl).transS (Fr.set (by simp))
  · intro x hx hs
    by_cases e : x = r
    · subst e; exact .refl _
    · rw [Up_ne _ e] at hs; cases hs
  · intro x hx; simp only [List.mem_singleton] at hx; subst hx; exact ⟨hr, Up_self _ _ _⟩
  · have := un_up (fun _ => false) r rfl k
    rw [if_pos hr] at this
    have := un_le (fun _ => false) k
    simp only [List.length_singleton]; omega
  · intro x y hx hs hn
    by_cases e : x = r
    · subst e; exact absurd (List.mem_singleton.2 rfl) hn
    · rw [Up_ne _ e] at hs; cases hs
  clear hbr0' hblbs hbl bl
  rintro g Ev m1 ⟨s, l, lv, rfl, rfl, hs1, ho1, hb1, f1, ci, clo⟩
  have hbr1 := hbrf m1 f1
  obtain ⟨la, lc, rfl⟩ := ho1.form
  simp (disch := omega) only [go_sem]
  refine condB_dec (fun h => ?_) (fun h => ?_)
  · rcases List.eq_nil_or_concat l with rfl | ⟨l0, x, rfl⟩
    · simp at h
    simp only [List.concat_eq_append, List.length_append, List.length_cons, List.length_nil, Nat.zero_add] at *
    obtain ⟨b, c, e, hx, hc, ho0⟩ := ho1.last
    cases e
    have hxk := ci.lin x (by simp)
    have hroom := ci.room
    simp only [List.length_append, List.length_cons, List.length_nil, Nat.zero_add] at hroom
    simp (disch := omega) only [go_sem, List.concat_eq_append, List.length_append, hx, IntWalk.toNatUp, Nat.add_sub_cancel, Int.natCast_add, Int.natCast_one]
    generalize hgh : 2 * un s k + (l0.concat x).length = gh
    simp only [List.concat_eq_append, List.length_append, List.length_cons, List.length_nil, Nat.zero_add] at hgh
    refine loopQ_intro (fun g Ev m' => ∃ (j : Nat) (s : Nat → Bool) (l : List Nat) (lv : Value), j ≤ (E x).length ∧ g = (E x).length - j ∧ Ev = [(0, .slice ea k ec), (3, .int .i64 (k : Nat)), (4, .slice (some ⟨br, 0, none⟩) k k), (5, .int .i64 (r : Nat)), (6, lv), (7, .int .i64 (x : Nat)), (8, .int .i64 (j : Nat))] ∧
      m' bs = some (.cells (rb k s).toArray 4 (0, 0)) ∧ Own m' 3 1 lv l.length (nats l) ∧ (∀ b ∈ blkOf lv, m0 b = none) ∧ Fr m0 m' [bs] ∧ CI k E r s l ∧ s x = true ∧ 2 * un s k + l.length < gh ∧
      (∀ z y, z < k → s z = true → z ∉ l → z ≠ x → Adj k E z y → s y = true) ∧ (∀ y : Nat, y < k → (y : Int) ∈ (E x).take j → s y = true)) (E x).length rfl
      ⟨0, s, l0, _, by omega, by omega, rfl, hs1, ho0, ?_, f1, ⟨ci.src, ci.sound, fun z hz => ci.lin z (by simp [hz]), by omega⟩, hxk.2, by omega, fun z y h1 h2 h3 h4 h5 => clo z y h1 h2 (by simp [h3, h4]) h5, by simp⟩ ?_
    · intro b' hb'; exact hb1 b' (by simpa [Env.get, only, blkOf] using hb')
    clear ho0 hx hs1 ho1 hb1 ci clo hroom hc f1 hgh
    rintro g Ev m2 ⟨j, s2, l, lv, hj, rfl, rfl, hs2, ho2, hb2, f2, ci, hsx, hgh, clo, hed⟩
    obtain ⟨hxl, xa, xc, hLx, hxr⟩ := hLv x hxk.1
    obtain ⟨b1, o1, rfl, hc1⟩ := (hLr.frame (hfm _ f2)).at (i := x) (by omega)
    rw [List.getElem?_eq_getElem (by omega), Option.some.injEq] at hLx
    rw [hLx] at hc1
    have hroom := ci.room
    have hbr2 := hbrf m2 f2
    obtain ⟨la, lc2, rfl⟩ := ho2.form
    simp (disch := omega) only [go_sem, hc1, hbr2]
    refine condB_dec (fun h2 => ?_) (fun h2 => ?_)
    · obtain ⟨b3, o3, rfl, hc3⟩ := (hxr.frame (hfm _ f2)).at (i := j) (by simp [ints]; omega)
      obtain ⟨y, hy⟩ : ∃ y, (E x)[j]'(by omega) = y := ⟨_, rfl⟩
      have htk : (E x).take (j + 1) = (E x).take j ++ [y] := by rw [List.take_succ_eq_append_getElem (by omega), hy]
      simp only [ints, List.getElem_map, hy] at hc3
      have skip : (∀ z : Nat, y = z → z < k → s2 z = true) → ∀ z : Nat, z < k → (z : Int) ∈ (E x).take (j + 1) → s2 z = true := fun hz z h1 h2 => by
        rw [htk, List.mem_append, List.mem_singleton] at h2
        rcases h2 with h2 | h2
        · exact hed z h1 h2
        · exact hz z h2.symm h1
      by_cases hy0 : 0 ≤ y
      · obtain ⟨z, rfl⟩ := Int.eq_ofNat_of_zero_le hy0
        by_cases hzk : z < k
        · cases hsz : s2 z with
          | true =>
            simp (disch := omega) only [go_sem, hc1, hc3, hbr2, hs2, dec_t, dec_f, if_true, hsz, Bool.not_true]
            exact handN_intro ((E x).length - (j + 1)) (by omega) ⟨j + 1, s2, l, _, by omega, rfl, rfl, hs2, ho2, hb2, f2, ci, hsx, hgh, clo, skip fun w e _ => by
              have : w = z := by omega
              subst this; exact hsz⟩
          | false =>
            have hun := un_up s2 z hsz k
            rw [if_pos hzk] at hun
            simp (disch := omega) only [go_sem, hc1, hc3, hbr2, hs2, dec_t, dec_f, if_true, hsz, Bool.not_false]
            refine newP_intro fun bn hbn => ?_
            obtain ⟨hbns, hbn2⟩ := new_ne hbn
            simp (disch := omega) only [go_sem]
            generalize hm3 : Mem.set (Mem.set m2 bs _) bn _ = m3
            have f3 : Fr m2 m3 [bs] := by
              intro q hq hqs
              simp only [List.mem_singleton] at hqs
              rw [← hm3, set_ne _ _ _ (fun e => by subst e; exact hq hbn2), set_ne _ _ _ hqs]
            have c3 : m3 bs = some (.cells (rb k (Up s2 z true)).toArray 4 (0, 0)) := by
              rw [← hm3, set_ne _ _ _ (Ne.symm hbns), set_self]
            have cn : m3 bn = some (.cells [Value.int .i64 (z : Nat)].toArray 3 (0, 0)) := by rw [← hm3, set_self]
            clear hm3
            have hroom := ci.room
            refine app_own (n := l.length) (k := 1) (c := 1) (news := [.int .i64 (z : Nat)]) (xs := nats l) (ho2.frame f3 (fun q hq => by simpa using hnb q (hb2 q hq))) rfl ?_ rfl (by simp [Value.oneCell']) rfl (by omega) (by omega) ?_
            · simp (disch := omega) only [go_sem, ldS, cn]
            intro w4 m4 ho4 f4 hb4
            simp (disch := omega) only [go_sem]
            have hbl4 : ∀ q ∈ blkOf w4, m0 q = none := fun q hq => by
              rcases hb4 q hq with h5 | h5
              · exact hb2 q h5
              · cases hmq : m0 q with
                | none => rfl
                | some o =>
                  have hqs : q ≠ bs := fun e => by rw [e, c3] at h5; cases h5
                  have := f3.get (f2.get hmq (by simpa using hqs)) (by simpa using hqs)
                  rw [this] at h5; cases h5
            refine handN_intro ((E x).length - (j + 1)) (by omega) ⟨j + 1, Up s2 z true, l ++ [z], w4, by omega, rfl, rfl, ?_, ?_, hbl4, ?_, ⟨?_, fun w hw hsw => ?_, fun w hw => ?_, ?_⟩, ?_, ?_, fun w v hw hsw hwl hwx ha => ?_, fun w hw hm => ?_⟩
            · exact f4.get c3 (fun hq => hnb _ (hb2 _ hq) rfl)
            · simpa [nats] using ho4
            · exact (f2.transS f3).trans f4 (fun q hq hq0 => (hq0 (hb2 q hq)).elim)
            · by_cases e : r = z
              · rw [e, Up_self]
              · rw [Up_ne _ e]; exact ci.src
            · by_cases e : w = z
              · subst e
                exact (ci.sound x hxk.1 hsx).trans (.one ⟨hxk.1, hw, by rw [← hy]; exact List.getElem_mem _⟩)
              · rw [Up_ne _ e] at hsw; exact ci.sound w hw hsw
            · rcases List.mem_append.1 hw with h5 | h5
              · refine ⟨(ci.lin w h5).1, ?_⟩
                by_cases e : w = z
                · rw [e, Up_self]
                · rw [Up_ne _ e]; exact (ci.lin w h5).2
              · simp only [List.mem_singleton] at h5; subst h5; exact ⟨hzk, Up_self _ _ _⟩
            · simp only [List.length_append, List.length_singleton]; omega
            · by_cases e : x = z
              · rw [e, Up_self]
              · rw [Up_ne _ e]; exact hsx
            · simp only [List.length_append, List.length_singleton]; omega
            · simp only [List.mem_append, List.mem_singleton, not_or] at hwl
              by_cases e : v = z
              · rw [e, Up_self]
              · rw [Up_ne _ e]
                rw [Up_ne _ hwl.2] at hsw
                exact clo w v hw hsw hwl.1 hwx ha
            · by_cases e : w = z
              · rw [e, Up_self]
              · rw [Up_ne _ e]
                rw [htk, List.mem_append, List.mem_singleton] at hm
                rcases hm with hm | hm
                · exact hed w hw hm
                · exact absurd (by omega) e
        · simp (disch := omega) only [go_sem, hc1, hc3, hbr2, hs2, dec_t, dec_f, if_true, if_false, undef]
          exact handN_intro ((E x).length - (j + 1)) (by omega) ⟨j + 1, s2, l, _, by omega, rfl, rfl, hs2, ho2, hb2, f2, ci, hsx, hgh, clo, skip fun w e hw => absurd hw (by omega)⟩
      · simp (disch := omega) only [go_sem, hc1, hc3, hbr2, hs2, dec_t, dec_f, if_true, if_false, undef]
        exact handN_intro ((E x).length - (j + 1)) (by omega) ⟨j + 1, s2, l, _, by omega, rfl, rfl, hs2, ho2, hb2, f2, ci, hsx, hgh, clo, skip fun w e hw => absurd e (by omega)⟩
    · have hje : (E x).length = j := by omega
      simp (disch := omega) only [go_sem]
      refine handN_intro (2 * un s2 k + l.length) (by omega) ⟨s2, l, _, rfl, rfl, hs2, ho2, hb2, f2, ci, fun z y hz hsz hzl ha => ?_⟩
      by_cases e : z = x
      · subst e
        exact hed y ha.2.1 (by rw [← hje, List.take_length]; exact ha.2.2)
      · exact clo z y hz hsz hzl e ha
  · have hl0 : l = [] := List.eq_nil_of_length_eq_zero (by omega)
    subst hl0
    simp (disch := omega) only [go_sem]
    refine hQ m1 s _ _ hs1 f1 fun v hv => ⟨fun h5 => ci.sound v hv h5, fun h5 => ?_⟩
    refine closed_rch (T := fun y => s y = true) (fun u v hu ha => ?_) h5 ci.src
    exact clo u v ha.1 hu (by simp) ha

/-- a matrix of who reaches whom -/
def RR (m : Mem) (b k : Nat) (f : Nat → Value) (R : Nat → Nat → Bool) (i : Nat) (S : Nat → Prop) : Prop :=
  m b = some (.cells (rv k f).toArray 38 (0, 0)) ∧ S b ∧ ∀ u, u < i → ∃ g, f u = .slice (some ⟨g, 0, none⟩) k k ∧ m g = some (.cells (rb k (R u)).toArray 4 (0, 0)) ∧ g ≠ b ∧ S g

set_option maxHeartbeats 2000000 in
theorem reach_spec (m : Mem) (k : Nat) (ev : Value) (E : Nat → List Int) (hk : k ≤ 512) (hg : GRd m k ev E) :
    MC Try.prog 20 [ev] m fun v m' => ∃ b f R, v = .slice (some ⟨b, 0, none⟩) k k ∧ RR m' b k f R k (fun x => m x = none) ∧ (∀ u v, u < k → v < k → (R u v = true ↔ Rch k E u v)) ∧ Fr m m' [] := by
  obtain ⟨ea, ec, L, rfl, hL, hLr, hLv⟩ := hg
  refine MC_start Try.func20 reach_ok (by kernel_rfl) (by simp [Try.f20]) ?_
  simp (disch := omega) only [go_sem]
  refine newP_intro fun b hb => ?_
  simp (disch := omega) only [go_sem]
  refine loopQ_intro (fun g Ev m' => ∃ i f R, i ≤ k ∧ g = k - i ∧ Ev = [(0, .slice ea k ec), (3, .int .i64 (k : Nat)), (4, .slice (some ⟨b, 0, none⟩) k k), (5, .int .i64 (i : Nat))] ∧
    RR m' b k f R i (fun x => m x = none) ∧ (∀ u v, u < i → v < k → (R u v = true ↔ Rch k E u v)) ∧ Fr m m' []) k rfl ⟨0, fun _ => .slice none 0 0, fun _ _ => false, by omega, by omega, rfl, ⟨?_, hb, by omega⟩, by omega, Fr.new [] hb⟩ ?_
  · simp only [set_self]
  rintro g Ev m1 ⟨i, f, R, hi, rfl, rfl, ⟨hb1, _, hrows⟩, hR, f1⟩
  show wpN Try.prog (.seq (.seq reach_r4 (.cond (.slot 16) .skip (.exit 0))) (.seq (.block 1 (.seq reach_r5 (.seq reach_r6 (.seq reach_r7 (.block 2 (.loop [0, 3, 4, 5, 6] reach_l1)))))) reach_r18)) _ _ _
  generalize hC : NC.seq reach_r6 _ = C
  simp (disch := omega) only [go_sem]
  refine condB_dec (fun hik => ?_) (fun hik => ?_)
  · have hik' : i < k := by omega
    simp (disch := omega) only [go_sem]
    refine newP_intro fun bs hbs => ?_
    have hbbs : b ≠ bs := fun e => by rw [← e, hb1] at hbs; cases hbs
    have hmbs : m bs = none := by
      cases h' : m bs with
      | none => rfl
      | some o => rw [f1.get0 h'] at hbs; cases hbs
    simp (disch := omega) only [go_sem, hb1]
    generalize hm2 : Mem.set (Mem.set m1 bs _) b _ = m2
    have c2 : m2 b = some (.cells (rv k (Up f i (.slice (some ⟨bs, 0, none⟩) k k))).toArray 38 (0, 0)) := by rw [← hm2]; exact set_self _ _
    have s2 : m2 bs = some (.cells (rb k fun _ => false).toArray 4 (0, 0)) := by rw [← hm2, set_ne _ _ _ (Ne.symm hbbs), set_self]
    have f2 : Fr m1 m2 [b] := by rw [← hm2]; exact (Fr.new [b] hbs).transS (Fr.set (by simp))
    clear hm2
    have f02 : Fr m m2 [] := f1.trans f2 (fun x hx hx0 => by simp only [List.mem_singleton] at hx; subst hx; exact (hx0 hb).elim)
    subst hC
    refine reach_l1_ok m m2 k ea ec E L hk hL hLr hLv i b bs hik' f02 hmbs s2 ?_ hbbs _ fun m3 s x6 x34 hs3 f3 hs => ?_
    · rw [c2, cellAt_cells, List.getElem?_toArray, rv_get _ _ _ hik', Up_self]
    simp (disch := omega) only [go_sem]
    refine handN_intro (k - (i + 1)) (by omega) ⟨i + 1, _, Up R i s, by omega, rfl, rfl, ⟨f3.get c2 (by simpa using hbbs), hb, fun u hu => ?_⟩, fun u v hu hv => ?_, ?_⟩
    · by_cases e : u = i
      · subst e
        exact ⟨bs, Up_self _ _ _, by rw [Up_self]; exact hs3, Ne.symm hbbs, hmbs⟩
      · obtain ⟨g, h1, h2, h3, h4⟩ := hrows u (by omega)
        refine ⟨g, by rw [Up_ne _ e]; exact h1, ?_, h3, h4⟩
        rw [Up_ne _ e]
        refine f3.get (f2.get h2 (by simpa using h3)) ?_
        simp only [List.mem_singleton]
        rintro rfl
        rw [h2] at hbs; cases hbs
    · by_cases e : u = i
      · subst e; rw [Up_self]; exact hs v hv
      · rw [Up_ne _ e]; exact hR u v (by omega) hv
    · exact f02.trans f3 (fun x hx hx0 => by simp only [List.mem_singleton] at hx; subst hx; exact (hx0 hmbs).elim)
  · have hik' : i = k := by omega
    subst hik'
    simp (disch := omega) only [go_sem]
    exact post_intro ⟨b, f, R, rfl, ⟨hb1, hb, hrows⟩, hR, f1⟩
end Go.Fw
