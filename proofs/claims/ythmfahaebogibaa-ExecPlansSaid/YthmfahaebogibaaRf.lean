import Derived.Test.YthmfahaebogibaaEw3
import Derived.Test.YthmfahaebogibaaCdC
import Derived.Test.YthmfahaebogibaaPl
set_option linter.unusedVariables false
set_option linter.unusedSimpArgs false
/-! What the document's own graph walks need. -/
set_option linter.unusedSimpArgs false
set_option linter.unusedVariables false
namespace Go.Fw
open Go.Proofs
theorem Rd1.frameS {m m' : Mem} {a : Option Addr} {l : List Value} {S : List Nat} (h : Rd1 m a l) (f : Fr m m' S) (hS : ∀ p, a = some p → p.block ∉ S) : Rd1 m' a l := by
  rcases h with rfl | ⟨b, o, rfl, hc⟩
  · exact .inl rfl
  · exact .inr ⟨b, o, rfl, fun i v hv => f.cellAt (hc i v hv) (hS _ rfl)⟩
theorem Own.last {m : Mem} {v : Value} {l0 : List Nat} {x : Nat} (h : Own m 3 1 v (l0.length + 1) (nats (l0 ++ [x]))) :
    ∃ b c, v = .slice (some ⟨b, 0, none⟩) (l0.length + 1) c ∧ cellAt (m b) l0.length = some (.int .i64 (x : Nat)) ∧ l0.length + 1 ≤ c ∧ Own m 3 1 (.slice (some ⟨b, 0, none⟩) l0.length c) l0.length (nats l0) := by
  obtain ⟨b, cap, tail, rfl, hb, hc, hl⟩ := h.row (by omega)
  refine ⟨b, cap, rfl, ?_, by omega, ?_⟩
  · rw [hb, cellAt_cells, List.getElem?_toArray, List.getElem?_append_left (by simp [nats_len])]
    simp [nats]
  · have := h.shrink (k := l0.length) (by omega) (by omega)
    simpa [nats, List.map_append] using this

/-- how many are not seen yet -/
def un (s : Nat → Bool) : Nat → Nat
  | 0 => 0
  | n + 1 => un s n + if s n = false then 1 else 0
theorem un_up (s : Nat → Bool) (y : Nat) (hy : s y = false) : ∀ n, un (Up s y true) n + (if y < n then 1 else 0) = un s n
  | 0 => by simp [un]
  | n + 1 => by
    have ih := un_up s y hy n
    simp only [un]
    by_cases e : n = y
    · subst e
      rw [Up_self, hy]
      simp at ih ⊢; omega
    · rw [Up_ne _ e]
      by_cases h : y < n
      · rw [if_pos h] at ih; rw [if_pos (show y < n + 1 by omega)]; omega
      · rw [if_neg h] at ih; rw [if_neg (show ¬ y < n + 1 by omega)]; omega
theorem un_le (s : Nat → Bool) : ∀ n, un s n ≤ n
  | 0 => by simp [un]
  | n + 1 => by have := un_le s n; simp only [un]; split <;> omega

structure CI (k : Nat) (E : Nat → List Int) (r : Nat) (s : Nat → Bool) (l : List Nat) : Prop where
  src : s r = true
  sound : ∀ x, x < k → s x = true → Rch k E r x
  lin : ∀ x ∈ l, x < k ∧ s x = true
  room : l.length + un s k ≤ k

theorem rch_lt {k : Nat} {E : Nat → List Int} {u v : Nat} (h : Rch k E u v) (hu : u < k) : v < k :=
  closed_rch (T := fun y => y < k) (fun _ _ _ ha => ha.2.1) h hu

end Go.Fw

namespace Go.Fw
open Go.Proofs

/-- what one node reaches is reckoned in its row bs -/
theorem reach_l1_ok (m m0 : Mem) (k : Nat) (ea : Option Addr) (ec : Nat) (E : Nat → List Int) (L : List Value) (hk : k ≤ 512) (hL : L.length = k) (hLr : Rd1 m ea L)
    (hLv : ∀ v, v < k → (E v).length ≤ 1048576 ∧ ∃ a' c', L[v]? = some (.slice a' (E v).length c') ∧ Rd1 m a' (ints (E v))) (r br bs : Nat) (hr : r < k)
    (fm : Fr m m0 []) (hbs0 : m bs = none) (hs0 : m0 bs = some (.cells (rb k fun _ => false).toArray 4 (0, 0))) (hbr0 : cellAt (m0 br) r = some (.slice (some ⟨bs, 0, none⟩) k k)) (hne : br ≠ bs)
    (Q : Exit → Env → Mem → Prop) (hQ : ∀ (m' : Mem) (s : Nat → Bool) (x6 x34 : Value), m' bs = some (.cells (rb k s).toArray 4 (0, 0)) → Fr m0 m' [bs] → (∀ v, v < k → (s v = true ↔ Rch k E r v)) →
      Q .normal [(0, .slice ea k ec), (3, .int .i64 (k : Nat)), (4, .slice (some ⟨br, 0, none⟩) k k), (5, .int .i64 (r : Nat)), (6, x6), (34, x34)] m') :
    wpN Try.prog (.seq ref19_reach_r6 (.seq ref19_reach_r7 (.block 2 (.loop [0, 3, 4, 5, 6] ref19_reach_l1)))) Q [(0, .slice ea k ec), (3, .int .i64 (k : Nat)), (4, .slice (some ⟨br, 0, none⟩) k k), (5, .int .i64 (r : Nat))] m0 := by
  have hnb : ∀ q, m0 q = none → q ≠ bs := fun q hq e => by rw [e, hs0] at hq; cases hq
  have hfm : ∀ m' : Mem, Fr m0 m' [bs] → Fr m m' [] := fun m' f => fm.trans f (fun x hx hx0 => by simp only [List.mem_singleton] at hx; subst hx; exact (hx0 hbs0).elim)
  have hbrf : ∀ m' : Mem, Fr m0 m' [bs] → cellAt (m' br) r = some (.slice (some ⟨bs, 0, none⟩) k k) := fun m' f => f.cellAt hbr0 (by simpa using hne)
  simp (disch := omega) only [go_sem, wrO]
  refine newO_intro fun bl hbl => ?_
  have hblbs := hnb bl hbl
  have hbr0' : cellAt ((m0.set bl (.cells [Value.int .i64 (r : Nat)].toArray 3)) br) r = some (.slice (some ⟨bs, 0, none⟩) k k) := (Fr.new [] hbl).cellAt hbr0 (by simp)
  simp (disch := omega) only [go_sem, wrO, hbr0', hs0]
  refine loopQ_intro (fun g Ev m' => ∃ (s : Nat → Bool) (l : List Nat) (lv : Value), g = 2 * un s k + l.length ∧ Ev = [(0, .slice ea k ec), (3, .int .i64 (k : Nat)), (4, .slice (some ⟨br, 0, none⟩) k k), (5, .int .i64 (r : Nat)), (6, lv)] ∧
    m' bs = some (.cells (rb k s).toArray 4 (0, 0)) ∧ Own m' 3 1 lv l.length (nats l) ∧ (∀ b ∈ blkOf lv, m0 b = none) ∧ Fr m0 m' [bs] ∧ CI k E r s l ∧
    ∀ x y, x < k → s x = true → x ∉ l → Adj k E x y → s y = true) (2 * un (Up (fun _ => false) r true) k + 1) rfl ⟨_, [r], _, rfl, rfl, ?_, ?_, ?_, ?_, ⟨Up_self _ _ _, ?_, ?_, ?_⟩, ?_⟩ ?_
  · simp (disch := omega) only [go_sem, wrO]
  · refine Own.frame (S := [bs]) (Own.new (xs := [.int .i64 (r : Nat)]) rfl) (Fr.set (by simp)) (by
      intro b hb
      have : b = bl := by simpa [Env.get, only, blkOf] using hb
      subst this; simpa using hblbs)
  · intro b hb
    have : b = bl := by simpa [Env.get, only, blkOf] using hb
    subst this; exact hbl
  · exact (Fr.new [bs] hbl).transS (Fr.set (by simp))
  · intro x hx hs
    by_cases e : x = r
    · subst e; exact .refl _
    · rw [Up_ne _ e] at hs; cases hs
  · intro x hx; simp only [List.mem_singleton] at hx; subst hx; exact ⟨hr, Up_self _ _ _⟩
  · have := un_up (fun _ => false) r rfl k
    rw [if_pos hr] at this
    have := un_le (fun _ => false) k
    simp only [List.length_singleton]; omega
  · intro x y hx hs hn
    by_cases e : x = r
    · subst e; exact absurd (List.mem_singleton.2 rfl) hn
    · rw [Up_ne _ e] at hs; cases hs
  clear hbr0' hblbs hbl bl
  rintro g Ev m1 ⟨s, l, lv, rfl, rfl, hs1, ho1, hb1, f1, ci, clo⟩
  have hbr1 := hbrf m1 f1
  obtain ⟨la, lc, rfl⟩ := ho1.form
  simp (disch := omega) only [go_sem, wrO]
  refine condB_dec (fun h => ?_) (fun h => ?_)
  · rcases List.eq_nil_or_concat l with rfl | ⟨l0, x, rfl⟩
    · simp at h
    simp only [List.concat_eq_append, List.length_append, List.length_cons, List.length_nil, Nat.zero_add] at *
    obtain ⟨b, c, e, hx, hc, ho0⟩ := ho1.last
    cases e
    have hxk := ci.lin x (by simp)
    have hroom := ci.room
    simp only [List.length_append, List.length_cons, List.length_nil, Nat.zero_add] at hroom
    simp (disch := omega) only [go_sem, wrO, List.concat_eq_append, List.length_append, hx, IntWalk.toNatUp, Nat.add_sub_cancel, Int.natCast_add, Int.natCast_one]
    generalize hgh : 2 * un s k + (l0.concat x).length = gh
    simp only [List.concat_eq_append, List.length_append, List.length_cons, List.length_nil, Nat.zero_add] at hgh
    refine loopQ_intro (fun g Ev m' => ∃ (j : Nat) (s : Nat → Bool) (l : List Nat) (lv : Value), j ≤ (E x).length ∧ g = (E x).length - j ∧ Ev = [(0, .slice ea k ec), (3, .int .i64 (k : Nat)), (4, .slice (some ⟨br, 0, none⟩) k k), (5, .int .i64 (r : Nat)), (6, lv), (7, .int .i64 (x : Nat)), (8, .int .i64 (j : Nat))] ∧
      m' bs = some (.cells (rb k s).toArray 4 (0, 0)) ∧ Own m' 3 1 lv l.length (nats l) ∧ (∀ b ∈ blkOf lv, m0 b = none) ∧ Fr m0 m' [bs] ∧ CI k E r s l ∧ s x = true ∧ 2 * un s k + l.length < gh ∧
      (∀ z y, z < k → s z = true → z ∉ l → z ≠ x → Adj k E z y → s y = true) ∧ (∀ y : Nat, y < k → (y : Int) ∈ (E x).take j → s y = true)) (E x).length rfl
      ⟨0, s, l0, _, by omega, by omega, rfl, hs1, ho0, ?_, f1, ⟨ci.src, ci.sound, fun z hz => ci.lin z (by simp [hz]), by omega⟩, hxk.2, by omega, fun z y h1 h2 h3 h4 h5 => clo z y h1 h2 (by simp [h3, h4]) h5, by simp⟩ ?_
    · intro b' hb'; exact hb1 b' (by simpa [Env.get, only, blkOf] using hb')
    clear ho0 hx hs1 ho1 hb1 ci clo hroom hc f1 hgh
    rintro g Ev m2 ⟨j, s2, l, lv, hj, rfl, rfl, hs2, ho2, hb2, f2, ci, hsx, hgh, clo, hed⟩
    obtain ⟨hxl, xa, xc, hLx, hxr⟩ := hLv x hxk.1
    obtain ⟨b1, o1, rfl, hc1⟩ := (hLr.frame (hfm _ f2)).at (i := x) (by omega)
    rw [List.getElem?_eq_getElem (by omega), Option.some.injEq] at hLx
    rw [hLx] at hc1
    have hroom := ci.room
    have hbr2 := hbrf m2 f2
    obtain ⟨la, lc2, rfl⟩ := ho2.form
    simp (disch := omega) only [go_sem, wrO, hc1, hbr2]
    refine condB_dec (fun h2 => ?_) (fun h2 => ?_)
    · obtain ⟨b3, o3, rfl, hc3⟩ := (hxr.frame (hfm _ f2)).at (i := j) (by simp [ints]; omega)
      obtain ⟨y, hy⟩ : ∃ y, (E x)[j]'(by omega) = y := ⟨_, rfl⟩
      have htk : (E x).take (j + 1) = (E x).take j ++ [y] := by rw [List.take_succ_eq_append_getElem (by omega), hy]
      simp only [ints, List.getElem_map, hy] at hc3
      have skip : (∀ z : Nat, y = z → z < k → s2 z = true) → ∀ z : Nat, z < k → (z : Int) ∈ (E x).take (j + 1) → s2 z = true := fun hz z h1 h2 => by
        rw [htk, List.mem_append, List.mem_singleton] at h2
        rcases h2 with h2 | h2
        · exact hed z h1 h2
        · exact hz z h2.symm h1
      by_cases hy0 : 0 ≤ y
      · obtain ⟨z, rfl⟩ := Int.eq_ofNat_of_zero_le hy0
        by_cases hzk : z < k
        · cases hsz : s2 z with
          | true =>
            simp (disch := omega) only [go_sem, wrO, hc1, hc3, hbr2, hs2, dec_t, dec_f, if_true, hsz, Bool.not_true]
            exact handN_intro ((E x).length - (j + 1)) (by omega) ⟨j + 1, s2, l, _, by omega, rfl, rfl, hs2, ho2, hb2, f2, ci, hsx, hgh, clo, skip fun w e _ => by
              have : w = z := by omega
              subst this; exact hsz⟩
          | false =>
            have hun := un_up s2 z hsz k
            rw [if_pos hzk] at hun
            simp (disch := omega) only [go_sem, wrO, hc1, hc3, hbr2, hs2, dec_t, dec_f, if_true, hsz, Bool.not_false]
            refine newO_intro fun bn hbn => ?_
            obtain ⟨hbns, hbn2⟩ := new_ne hbn
            simp (disch := omega) only [go_sem, wrO]
            generalize hm3 : Mem.set (Mem.set m2 bs _) bn _ = m3
            have f3 : Fr m2 m3 [bs] := by
              intro q hq hqs
              simp only [List.mem_singleton] at hqs
              rw [← hm3, set_ne _ _ _ (fun e => by subst e; exact hq hbn2), set_ne _ _ _ hqs]
            have c3 : m3 bs = some (.cells (rb k (Up s2 z true)).toArray 4 (0, 0)) := by
              rw [← hm3, set_ne _ _ _ (Ne.symm hbns), set_self]
            have cn : m3 bn = some (.cells [Value.int .i64 (z : Nat)].toArray 3 (0, 0)) := by rw [← hm3, set_self]
            clear hm3
            have hroom := ci.room
            refine app_own (n := l.length) (k := 1) (c := 1) (news := [.int .i64 (z : Nat)]) (xs := nats l) (ho2.frame f3 (fun q hq => by simpa using hnb q (hb2 q hq))) rfl ?_ rfl (by simp [Value.oneCell']) rfl (by omega) (by omega) ?_
            · exact ldS_cell (l := [.int .i64 (z : Nat)]) cn (by simp)
            intro w4 m4 ho4 f4 hb4
            simp (disch := omega) only [go_sem, wrO]
            have hbl4 : ∀ q ∈ blkOf w4, m0 q = none := fun q hq => by
              rcases hb4 q hq with h5 | h5
              · exact hb2 q h5
              · cases hmq : m0 q with
                | none => rfl
                | some o =>
                  have hqs : q ≠ bs := fun e => by rw [e, c3] at h5; cases h5
                  have := f3.get (f2.get hmq (by simpa using hqs)) (by simpa using hqs)
                  rw [this] at h5; cases h5
            refine handN_intro ((E x).length - (j + 1)) (by omega) ⟨j + 1, Up s2 z true, l ++ [z], w4, by omega, rfl, rfl, ?_, ?_, hbl4, ?_, ⟨?_, fun w hw hsw => ?_, fun w hw => ?_, ?_⟩, ?_, ?_, fun w v hw hsw hwl hwx ha => ?_, fun w hw hm => ?_⟩
            · exact f4.get c3 (fun hq => hnb _ (hb2 _ hq) rfl)
            · simpa [nats] using ho4
            · exact (f2.transS f3).trans f4 (fun q hq hq0 => (hq0 (hb2 q hq)).elim)
            · by_cases e : r = z
              · rw [e, Up_self]
              · rw [Up_ne _ e]; exact ci.src
            · by_cases e : w = z
              · subst e
                exact (ci.sound x hxk.1 hsx).trans (.one ⟨hxk.1, hw, by rw [← hy]; exact List.getElem_mem _⟩)
              · rw [Up_ne _ e] at hsw; exact ci.sound w hw hsw
            · rcases List.mem_append.1 hw with h5 | h5
              · refine ⟨(ci.lin w h5).1, ?_⟩
                by_cases e : w = z
                · rw [e, Up_self]
                · rw [Up_ne _ e]; exact (ci.lin w h5).2
              · simp only [List.mem_singleton] at h5; subst h5; exact ⟨hzk, Up_self _ _ _⟩
            · simp only [List.length_append, List.length_singleton]; omega
            · by_cases e : x = z
              · rw [e, Up_self]
              · rw [Up_ne _ e]; exact hsx
            · simp only [List.length_append, List.length_singleton]; omega
            · simp only [List.mem_append, List.mem_singleton, not_or] at hwl
              by_cases e : v = z
              · rw [e, Up_self]
              · rw [Up_ne _ e]
                rw [Up_ne _ hwl.2] at hsw
                exact clo w v hw hsw hwl.1 hwx ha
            · by_cases e : w = z
              · rw [e, Up_self]
              · rw [Up_ne _ e]
                rw [htk, List.mem_append, List.mem_singleton] at hm
                rcases hm with hm | hm
                · exact hed w hw hm
                · exact absurd (by omega) e
        · simp (disch := omega) only [go_sem, wrO, hc1, hc3, hbr2, hs2, dec_t, dec_f, if_true, if_false, undef]
          exact handN_intro ((E x).length - (j + 1)) (by omega) ⟨j + 1, s2, l, _, by omega, rfl, rfl, hs2, ho2, hb2, f2, ci, hsx, hgh, clo, skip fun w e hw => absurd hw (by omega)⟩
      · simp (disch := omega) only [go_sem, wrO, hc1, hc3, hbr2, hs2, dec_t, dec_f, if_true, if_false, undef]
        exact handN_intro ((E x).length - (j + 1)) (by omega) ⟨j + 1, s2, l, _, by omega, rfl, rfl, hs2, ho2, hb2, f2, ci, hsx, hgh, clo, skip fun w e hw => absurd e (by omega)⟩
    · have hje : (E x).length = j := by omega
      simp (disch := omega) only [go_sem, wrO]
      refine handN_intro (2 * un s2 k + l.length) (by omega) ⟨s2, l, _, rfl, rfl, hs2, ho2, hb2, f2, ci, fun z y hz hsz hzl ha => ?_⟩
      by_cases e : z = x
      · subst e
        exact hed y ha.2.1 (by rw [← hje, List.take_length]; exact ha.2.2)
      · exact clo z y hz hsz hzl e ha
  · have hl0 : l = [] := List.eq_nil_of_length_eq_zero (by omega)
    subst hl0
    simp (disch := omega) only [go_sem, wrO]
    refine hQ m1 s _ _ hs1 f1 fun v hv => ⟨fun h5 => ci.sound v hv h5, fun h5 => ?_⟩
    refine closed_rch (T := fun y => s y = true) (fun u v hu ha => ?_) h5 ci.src
    exact clo u v ha.1 hu (by simp) ha

/-- a matrix of who reaches whom -/
def RR (m : Mem) (b k : Nat) (f : Nat → Value) (R : Nat → Nat → Bool) (i : Nat) (S : Nat → Prop) : Prop :=
  m b = some (.cells (rv k f).toArray 104 (0, 0)) ∧ S b ∧ ∀ u, u < i → ∃ g, f u = .slice (some ⟨g, 0, none⟩) k k ∧ m g = some (.cells (rb k (R u)).toArray 4 (0, 0)) ∧ g ≠ b ∧ S g

set_option maxHeartbeats 2000000 in
theorem reach_spec (m : Mem) (k : Nat) (ev : Value) (E : Nat → List Int) (hk : k ≤ 512) (hg : GRd m k ev E) :
    MC Try.prog 52 [ev] m fun v m' => ∃ b f R, v = .slice (some ⟨b, 0, none⟩) k k ∧ RR m' b k f R k (fun x => m x = none) ∧ (∀ u v, u < k → v < k → (R u v = true ↔ Rch k E u v)) ∧ Fr m m' [] := by
  obtain ⟨ea, ec, L, rfl, hL, hLr, hLv⟩ := hg
  refine MC_start Try.func52 ref19_reach_ok (by kernel_rfl) (by simp [Try.f52]) ?_
  simp (disch := omega) only [go_sem, wrO]
  refine newO_intro fun b hb => ?_
  simp (disch := omega) only [go_sem, wrO]
  refine loopQ_intro (fun g Ev m' => ∃ i f R, i ≤ k ∧ g = k - i ∧ Ev = [(0, .slice ea k ec), (3, .int .i64 (k : Nat)), (4, .slice (some ⟨b, 0, none⟩) k k), (5, .int .i64 (i : Nat))] ∧
    RR m' b k f R i (fun x => m x = none) ∧ (∀ u v, u < i → v < k → (R u v = true ↔ Rch k E u v)) ∧ Fr m m' []) k rfl ⟨0, fun _ => .slice none 0 0, fun _ _ => false, by omega, by omega, rfl, ⟨?_, hb, by omega⟩, by omega, Fr.new [] hb⟩ ?_
  · simp only [set_self]
  rintro g Ev m1 ⟨i, f, R, hi, rfl, rfl, ⟨hb1, _, hrows⟩, hR, f1⟩
  show wpN Try.prog (.seq (.seq ref19_reach_r4 (.cond (.slot 16) .skip (.exit 0))) (.seq (.block 1 (.seq ref19_reach_r5 (.seq ref19_reach_r6 (.seq ref19_reach_r7 (.block 2 (.loop [0, 3, 4, 5, 6] ref19_reach_l1)))))) ref19_reach_r18)) _ _ _
  generalize hC : NC.seq ref19_reach_r6 _ = C
  simp (disch := omega) only [go_sem, wrO]
  refine condB_dec (fun hik => ?_) (fun hik => ?_)
  · have hik' : i < k := by omega
    simp (disch := omega) only [go_sem, wrO]
    refine newO_intro fun bs hbs => ?_
    have hbbs : b ≠ bs := fun e => by rw [← e, hb1] at hbs; cases hbs
    have hmbs : m bs = none := by
      cases h' : m bs with
      | none => rfl
      | some o => rw [f1.get0 h'] at hbs; cases hbs
    simp (disch := omega) only [go_sem, wrO, hb1]
    generalize hm2 : Mem.set (Mem.set m1 bs _) b _ = m2
    have c2 : m2 b = some (.cells (rv k (Up f i (.slice (some ⟨bs, 0, none⟩) k k))).toArray 104 (0, 0)) := by rw [← hm2]; exact set_self _ _
    have s2 : m2 bs = some (.cells (rb k fun _ => false).toArray 4 (0, 0)) := by rw [← hm2, set_ne _ _ _ (Ne.symm hbbs), set_self]
    have f2 : Fr m1 m2 [b] := by rw [← hm2]; exact (Fr.new [b] hbs).transS (Fr.set (by simp))
    clear hm2
    have f02 : Fr m m2 [] := f1.trans f2 (fun x hx hx0 => by simp only [List.mem_singleton] at hx; subst hx; exact (hx0 hb).elim)
    subst hC
    refine reach_l1_ok m m2 k ea ec E L hk hL hLr hLv i b bs hik' f02 hmbs s2 ?_ hbbs _ fun m3 s x6 x34 hs3 f3 hs => ?_
    · rw [c2, cellAt_cells, List.getElem?_toArray, rv_get _ _ _ hik', Up_self]
    simp (disch := omega) only [go_sem, wrO]
    refine handN_intro (k - (i + 1)) (by omega) ⟨i + 1, _, Up R i s, by omega, rfl, rfl, ⟨f3.get c2 (by simpa using hbbs), hb, fun u hu => ?_⟩, fun u v hu hv => ?_, ?_⟩
    · by_cases e : u = i
      · subst e
        exact ⟨bs, Up_self _ _ _, by rw [Up_self]; exact hs3, Ne.symm hbbs, hmbs⟩
      · obtain ⟨g, h1, h2, h3, h4⟩ := hrows u (by omega)
        refine ⟨g, by rw [Up_ne _ e]; exact h1, ?_, h3, h4⟩
        rw [Up_ne _ e]
        refine f3.get (f2.get h2 (by simpa using h3)) ?_
        simp only [List.mem_singleton]
        rintro rfl
        rw [h2] at hbs; cases hbs
    · by_cases e : u = i
      · subst e; rw [Up_self]; exact hs v hv
      · rw [Up_ne _ e]; exact hR u v (by omega) hv
    · exact f02.trans f3 (fun x hx hx0 => by simp only [List.mem_singleton] at hx; subst hx; exact (hx0 hmbs).elim)
  · have hik' : i = k := by omega
    subst hik'
    simp (disch := omega) only [go_sem, wrO]
    exact post_intro ⟨b, f, R, rfl, ⟨hb1, hb, hrows⟩, hR, f1⟩
end Go.Fw

namespace Go.Fw
open Go.Proofs

/-- rows that were put out, and can be read; none lies in X -/
structure Outs (m : Mem) (ov : Value) (l : List (List Nat)) (X : List Nat) : Prop where
  own : ∃ xs, Own m 55 1 ov l.length xs ∧ ∀ p (hp : p < l.length), ∃ a c, xs[p]? = some (.slice a l[p].length c) ∧ Rd1 m a (nats l[p]) ∧ ∀ q, a = some q → q.block ∉ blkOf ov ∧ m q.block ≠ none ∧ q.block ∉ X
  nx : ∀ b ∈ blkOf ov, b ∉ X
theorem Outs.rd {m : Mem} {ov : Value} {l : List (List Nat)} {X : List Nat} (h : Outs m ov l X) : RdRows m ov l := by
  obtain ⟨xs, ow, hr⟩ := h.own
  have hxl : xs.length = l.length := by have := ow.1; omega
  obtain ⟨a, c, rfl, hrd⟩ := ow.rd
  refine ⟨a, c, xs, rfl, hxl, hrd, fun k r hk => ?_⟩
  obtain ⟨hk', e⟩ := List.getElem?_eq_some_iff.1 hk
  subst e
  obtain ⟨a', c', h1, h2, _⟩ := hr k hk'
  exact ⟨a', c', h1, h2⟩
theorem Outs.frame {m m' : Mem} {ov : Value} {l : List (List Nat)} {S X : List Nat} (h : Outs m ov l X) (f : Fr m m' S) (hS : ∀ b ∈ S, b ∈ X) : Outs m' ov l X := by
  obtain ⟨xs, ow, hr⟩ := h.own
  refine ⟨⟨xs, ow.frame f (fun b hb hbS => h.nx b hb (hS b hbS)), fun p hp => ?_⟩, h.nx⟩
  obtain ⟨a, c, h1, h2, h3⟩ := hr p hp
  have hne : ∀ q, a = some q → q.block ∉ S := fun q hq hqS => (h3 q hq).2.2 (hS _ hqS)
  exact ⟨a, c, h1, h2.frameS f hne, fun q hq => ⟨(h3 q hq).1, f.some (h3 q hq).2.1 (hne q hq), (h3 q hq).2.2⟩⟩
/-- a row is put behind -/
theorem Outs.push {m m1 m' : Mem} {ov w : Value} {l : List (List Nat)} {X : List Nat} (h : Outs m ov l X) {a : Option Addr} {c : Nat} {r : List Nat} (hr : Rd1 m a (nats r)) (ha : ∀ q, a = some q → q.block ∉ blkOf ov ∧ m q.block ≠ none ∧ q.block ∉ X)
    (f1 : Fr m m1 []) (hm1 : ∀ x, m1 x = none → m x = none) (hX : ∀ x ∈ X, m x ≠ none)
    (happ : ∀ xs, Own m 55 1 ov l.length xs → Own m' 55 1 w (l.length + 1) (xs ++ [.slice a r.length c])) (f2 : Fr m1 m' (blkOf ov)) (hw : ∀ b ∈ blkOf w, b ∈ blkOf ov ∨ m1 b = none) : Outs m' w (l ++ [r]) X := by
  obtain ⟨xs, ow, hrs⟩ := h.own
  have hxl : xs.length = l.length := by have := ow.1; omega
  have f : Fr m m' (blkOf ov) := (f1.sub (by simp)).transS f2
  have keep : ∀ q : Addr, q.block ∉ blkOf ov → m q.block ≠ none → q.block ∉ X → q.block ∉ blkOf w ∧ m' q.block ≠ none ∧ q.block ∉ X := fun q h1 h2 h3 => by
    refine ⟨fun hq => ?_, f.some h2 h1, h3⟩
    rcases hw _ hq with h | h
    · exact h1 h
    · exact h2 (hm1 _ h)
  refine ⟨⟨_, by simpa using happ xs ow, fun p hp => ?_⟩, fun b hb => ?_⟩
  · by_cases e : p < l.length
    · obtain ⟨a', c', h1, h2, h3⟩ := hrs p e
      refine ⟨a', c', ?_, ?_, fun q hq => keep q (h3 q hq).1 (h3 q hq).2.1 (h3 q hq).2.2⟩
      · rw [List.getElem?_append_left (by omega), h1, List.getElem_append_left e]
      · rw [List.getElem_append_left e]
        exact h2.frameS f fun q hq => (h3 q hq).1
    · have hpl : p = l.length := by simp at hp; omega
      subst hpl
      refine ⟨a, c, ?_, ?_, fun q hq => keep q (ha q hq).1 (ha q hq).2.1 (ha q hq).2.2⟩
      · rw [List.getElem?_append_right (by omega)]
        simp [hxl]
      · simp only [List.getElem_append_right (Nat.le_refl _), Nat.sub_self, List.getElem_cons_zero]
        exact hr.frameS f fun q hq => (ha q hq).1
  · rcases hw b hb with h1 | h1
    · exact h.nx b h1
    · exact fun hx => hX b hx (hm1 _ h1)

def fB (k : Nat) (R : Nat → Nat → Bool) (D : Nat → Bool) (i : Nat) : Bool := !D i && (List.range k).all fun j => !R i j || R j i || D j
theorem fB_free {k : Nat} {E : Nat → List Int} {R : Nat → Nat → Bool} (hR : ∀ u v, u < k → v < k → (R u v = true ↔ Rch k E u v)) (D : Nat → Bool) {i : Nat} (hi : i < k) : fB k R D i = true ↔ Free k E (fun x => D x = true) i := by
  simp only [fB, Bool.and_eq_true, List.all_eq_true, List.mem_range, Bool.or_eq_true, Bool.not_eq_true', Free]
  constructor
  · rintro ⟨h1, h2⟩
    refine ⟨hi, by simp [h1], fun j hj hr => ?_⟩
    rcases h2 j hj with (h | h) | h
    · rw [(hR i j hi hj).2 hr] at h; cases h
    · exact .inl ((hR j i hj hi).1 h)
    · exact .inr h
  · rintro ⟨_, h1, h2⟩
    refine ⟨by simpa using h1, fun j hj => ?_⟩
    cases hr : R i j with
    | false => exact .inl (.inl rfl)
    | true =>
      rcases h2 j hj ((hR i j hi hj).1 hr) with h | h
      · exact .inl (.inr ((hR j i hj hi).2 h))
      · exact .inr h

theorem un_lt {D D2 : Nat → Bool} {q : Nat} (h : ∀ v, D v = true → D2 v = true) (h1 : D q = false) (h2 : D2 q = true) : ∀ {n}, q < n → un D2 n < un D n := by
  have le : ∀ n, un D2 n ≤ un D n := by
    intro n
    induction n with
    | zero => simp [un]
    | succ n ih =>
      simp only [un]
      cases hd : D n with
      | true => rw [h n hd]; simpa using ih
      | false => cases D2 n <;> simp <;> omega
  intro n
  induction n with
  | zero => intro h; omega
  | succ n ih =>
    intro hq
    simp only [un]
    by_cases e : q = n
    · subst e
      rw [h1, h2]
      have := le q
      simp; omega
    · have := ih (by omega)
      cases hd : D n with
      | true => rw [h n hd]; simpa using this
      | false => cases D2 n <;> simp <;> omega
theorem Own.uniq {m : Mem} {t : TypeId} {size n : Nat} {v : Value} {xs ys : List Value} (h : Own m t size v n xs) (h' : Own m t size v n ys) : xs = ys := by
  obtain ⟨h1, h2⟩ := h
  obtain ⟨h3, h4⟩ := h'
  rcases h2 with ⟨rfl, rfl⟩ | ⟨b, cap, tail, rfl, hb, hl⟩
  · have : xs = [] := List.eq_nil_of_length_eq_zero (by simpa using h1)
    have : ys = [] := List.eq_nil_of_length_eq_zero (by simpa using h3)
    simp_all
  · rcases h4 with ⟨e, _⟩ | ⟨b', cap', tail', e, hb', hl'⟩
    · cases e
    · cases e
      rw [hb] at hb'
      simp only [Option.some.injEq, Obj.cells.injEq] at hb'
      exact (List.append_inj (congrArg Array.toList hb'.1) (by omega)).1

set_option maxHeartbeats 8000000 in
theorem refparts_spec (m : Mem) (k : Nat) (ev : Value) (E : Nat → List Int) (hk : k ≤ 512) (hg : GRd m k ev E) :
    MC Try.prog 41 [ev] m fun w m' => ∃ l, Out k E (fun _ => False) l ∧ RdRows m' w l ∧ Fr m m' [] := by
  obtain ⟨ea, ec, L, rfl, hL, hLr, hLv⟩ := hg
  refine MC_start Try.func41 ref19_Parts_ok (by kernel_rfl) (by simp [Try.f41]) ?_
  simp (disch := omega) only [go_sem, wrO]
  refine call_with (reach_spec m k _ E hk ⟨ea, ec, L, rfl, hL, hLr, hLv⟩) ?_
  rintro v m1 ⟨br, fr, R, rfl, ⟨hr1, _, hrows⟩, hR, f1⟩
  have hread : ∀ m' : Mem, Fr m1 m' [] → ∀ u v, u < k → v < k → ∃ g, cellAt (m' br) u = some (.slice (some ⟨g, 0, none⟩) k k) ∧ cellAt (m' g) v = some (.bool (R u v)) := fun m' f u v hu hv => by
    obtain ⟨g, h1, h2, _, _⟩ := hrows u hu
    refine ⟨g, ?_, ?_⟩
    · rw [f.get0 hr1, cellAt_cells, List.getElem?_toArray, rv_get _ _ _ hu, h1]
    · rw [f.get0 h2, cellAt_cells, List.getElem?_toArray, rb_get _ _ _ hv]
  simp (disch := omega) only [go_sem, wrO]
  refine newO_intro fun bd hbd => ?_
  simp (disch := omega) only [go_sem, wrO]
  refine loopQ_intro (fun g Ev m' => ∃ (D : Nat → Bool) (l : List (List Nat)) (ov : Value), g = un D k ∧ Ev = [(3, .slice (some ⟨br, 0, none⟩) k k), (4, .int .i64 (k : Nat)), (5, .slice (some ⟨bd, 0, none⟩) k k), (6, ov)] ∧
    m' bd = some (.cells (rb k D).toArray 4 (0, 0)) ∧ Outs m' ov l [bd] ∧ (∀ b ∈ blkOf ov, m1 b = none) ∧ Fr m1 m' [] ∧ l.length + un D k ≤ k ∧
    ∀ r, Out k E (fun x => D x = true) r → Out k E (fun _ => False) (l ++ r)) (un (fun _ => false) k) rfl ⟨fun _ => false, [], _, rfl, rfl, by simp only [set_self], ⟨⟨[], Own.nil _ _ _, by simp⟩, by intro b hb; simp [blkOf, only, Env.get] at hb⟩, by intro b hb; simp [blkOf, only, Env.get] at hb, Fr.new [] hbd, by have := un_le (fun _ => false) k; simpa using this, fun r hr => by simpa using hr⟩ ?_
  rintro g Ev m2 ⟨D, l, ov, rfl, rfl, hd2, ho2, hb2, f2, hroom, hpre⟩
  simp (disch := omega) only [go_sem, wrO]
  refine loopQ_intro (fun g Ev m' => ∃ (i : Nat) (nx : Int), i ≤ k ∧ g = k - i ∧ Ev = [(3, .slice (some ⟨br, 0, none⟩) k k), (4, .int .i64 (k : Nat)), (5, .slice (some ⟨bd, 0, none⟩) k k), (6, ov), (7, .int .i64 nx), (8, .int .i64 (i : Nat))] ∧ m' = m2 ∧
    ((nx = -1 ∧ ∀ u, u < i → fB k R D u = false) ∨ (∃ q : Nat, nx = q ∧ q < k ∧ fB k R D q = true ∧ ∀ u, u < q → fB k R D u = false))) k rfl ⟨0, -1, by omega, by omega, rfl, rfl, .inl ⟨rfl, by omega⟩⟩ ?_
  rintro g Ev m' ⟨i, nx, hi, rfl, rfl, rfl, hnx⟩
  by_cases hgo : i < k ∧ nx < 0
  · obtain ⟨rfl, hno⟩ : nx = -1 ∧ ∀ u, u < i → fB k R D u = false := by
      rcases hnx with h | ⟨q, h, _⟩
      · exact h
      · omega
    simp (disch := omega) only [go_sem, wrO, dec_t, if_true, hd2]
    cases hDi : D i with
    | true =>
      simp (disch := omega) only [go_sem, wrO]
      refine handN_intro (k - (i + 1)) (by omega) ⟨i + 1, -1, by omega, rfl, rfl, rfl, .inl ⟨rfl, fun u hu => ?_⟩⟩
      by_cases e : u = i
      · subst e; simp [fB, hDi]
      · exact hno u (by omega)
    | false =>
      simp (disch := omega) only [go_sem, wrO]
      refine loopQ_intro (fun g Ev m2 => ∃ j, j ≤ k ∧ g = k - j ∧ Ev = [(3, .slice (some ⟨br, 0, none⟩) k k), (4, .int .i64 (k : Nat)), (5, .slice (some ⟨bd, 0, none⟩) k k), (6, ov), (7, .int .i64 (-1)), (8, .int .i64 (i : Nat)), (9, .bool ((List.range j).all fun j => !R i j || R j i || D j)), (10, .int .i64 (j : Nat))] ∧ m2 = m') k rfl ⟨0, by omega, by omega, rfl, rfl⟩ ?_
      rintro g Ev m2 ⟨j, hj, rfl, rfl, rfl⟩
      simp (disch := omega) only [go_sem, wrO]
      refine condB_dec (fun hjk => ?_) (fun hjk => ?_)
      · have hjk' : j < k := by omega
        obtain ⟨g1, h1, h2⟩ := hread m2 f2 i j hgo.1 hjk'
        obtain ⟨g2, h3, h4⟩ := hread m2 f2 j i hjk' hgo.1
        have fin : ∀ x, x = ((List.range (j + 1)).all fun j => !R i j || R j i || D j) → x = (((List.range j).all fun j => !R i j || R j i || D j) && (!R i j || R j i || D j)) := fun x hx => by
          rw [hx, List.range_succ, List.all_append]; simp
        cases hfr : (List.range j).all fun j => !R i j || R j i || D j with
        | false =>
          simp (disch := omega) only [go_sem, wrO, undef, if_false, Bool.false_eq_true]
          refine handN_intro (k - (j + 1)) (by omega) ⟨j + 1, by omega, rfl, ?_, rfl⟩
          have := fin _ rfl
          rw [hfr, Bool.false_and] at this
          rw [this]; rfl
        | true =>
          rw [hfr] at fin
          simp only [Bool.true_and] at fin
          cases r1 : R i j <;> cases r2 : R j i <;> cases r3 : D j <;>
            (rw [r1] at h2 fin; rw [r2] at h4 fin; rw [r3] at fin
             simp (disch := omega) only [go_sem, wrO, h1, h2, h3, h4, hd2, r3, undef, if_false, if_true, Bool.false_eq_true, Bool.not_true, Bool.not_false]
             refine handN_intro (k - (j + 1)) (by omega) ⟨j + 1, by omega, rfl, ?_, rfl⟩
             have := fin _ rfl
             rw [this]; rfl)
      · have hjk' : j = k := by omega
        subst hjk'
        cases hfr : (List.range j).all fun j => !R i j || R j i || D j with
        | false =>
          simp (disch := omega) only [go_sem, wrO]
          refine handN_intro (j - (i + 1)) (by omega) ⟨i + 1, -1, by omega, rfl, rfl, rfl, .inl ⟨rfl, fun u hu => ?_⟩⟩
          by_cases e : u = i
          · subst e; simp only [fB, hDi, hfr]; rfl
          · exact hno u (by omega)
        | true =>
          simp (disch := omega) only [go_sem, wrO]
          refine handN_intro (j - (i + 1)) (by omega) ⟨i + 1, i, by omega, rfl, rfl, rfl, .inr ⟨i, rfl, hgo.1, by simp only [fB, hDi, hfr]; rfl, hno⟩⟩
  · rcases hnx with ⟨rfl, hno⟩ | ⟨q, rfl, hqk, hqf, hqmin⟩
    · -- none is free
      have hik : i = k := by omega
      subst hik
      simp (disch := omega) only [go_sem, wrO, dec_f, dec_t, undef, if_false, Bool.false_eq_true]
      have hout := hpre [] (.nil fun u hu => by
        have := (fB_free hR D hu.1).2 hu
        rw [hno u hu.1] at this; cases this)
      rw [List.append_nil] at hout
      exact post_intro ⟨l, hout, ho2.rd, f1.trans0 f2⟩
    · have hqfree := (fB_free hR D hqk).1 hqf
      have hDq : D q = false := by simpa using hqfree.2.1
      have hll : l.length ≤ 512 := by omega
      rcases Nat.lt_or_ge i k with hik | hik <;>
      (simp (disch := omega) only [go_sem, wrO, dec_f, dec_t, undef, if_false, if_true, Bool.false_eq_true]
       refine loopQ_intro (fun g Ev m2 => ∃ (j : Nat) (pv : Value) (D2 : Nat → Bool), j ≤ k ∧ g = k - j ∧ Ev = [(3, .slice (some ⟨br, 0, none⟩) k k), (4, .int .i64 (k : Nat)), (5, .slice (some ⟨bd, 0, none⟩) k k), (6, ov), (7, .int .i64 (q : Nat)), (11, pv), (12, .int .i64 (j : Nat))] ∧
         m2 bd = some (.cells (rb k D2).toArray 4 (0, 0)) ∧ Fr m' m2 [bd] ∧ (∃ len, Own m2 3 1 pv len (nats ((List.range j).filter fun v => R q v && R v q)) ∧ len = ((List.range j).filter fun v => R q v && R v q).length) ∧ (∀ b ∈ blkOf pv, m' b = none) ∧
         (∀ v, D2 v = (D v || (decide (v < j) && (R q v && R v q))))) k rfl ⟨0, _, D, by omega, by omega, rfl, hd2, Fr.refl _ _, ⟨0, by simpa [nats, only, Env.get] using Own.nil m' 3 1, by simp⟩, by intro b hb; simp [blkOf, only, Env.get] at hb, by simp⟩ ?_
       rintro g Ev m2 ⟨j, pv, D2, hj, rfl, rfl, hd3, f3, ⟨len, hpo, hlen⟩, hpb, hD2⟩
       have hbd0 : m' bd ≠ none := by rw [hd2]; exact Option.some_ne_none _
       have f13 : Fr m1 m2 [] := f2.trans f3 (fun x hx hx0 => by simp only [List.mem_singleton] at hx; subst hx; exact (hx0 hbd).elim)
       simp (disch := omega) only [go_sem, wrO]
       refine condB_dec (fun hjk => ?_) (fun hjk => ?_)
       · have hjk' : j < k := by omega
         obtain ⟨g1, h1, h2⟩ := hread m2 f13 q j hqk hjk'
         obtain ⟨g2, h3, h4⟩ := hread m2 f13 j q hjk' hqk
         have hlen2 : len ≤ 512 := by
           have := List.length_filter_le (fun v => R q v && R v q) (List.range j)
           rw [List.length_range] at this; omega
         have hno : (R q j && R j q) = false → ∀ v, D2 v = (D v || (decide (v < j + 1) && (R q v && R v q))) := fun h v => by
           rw [hD2 v]
           by_cases e : v = j
           · subst e; rw [h]; simp
           · have : decide (v < j + 1) = decide (v < j) := by rw [decide_eq_decide]; omega
             rw [this]
         have hflt : (R q j && R j q) = false → (List.range (j + 1)).filter (fun v => R q v && R v q) = (List.range j).filter fun v => R q v && R v q := fun h => by
           rw [List.range_succ, List.filter_append]; simp [h]
         cases r1 : R q j with
         | false =>
           rw [r1] at h2
           simp (disch := omega) only [go_sem, wrO, h1, h2, undef, if_false, Bool.false_eq_true]
           refine handN_intro (k - (j + 1)) (by omega) ⟨j + 1, pv, D2, by omega, rfl, rfl, hd3, f3, ⟨len, by rw [hflt (by rw [r1]; rfl)]; exact hpo, by rw [hflt (by rw [r1]; rfl)]; exact hlen⟩, hpb, hno (by rw [r1]; rfl)⟩
         | true =>
           cases r2 : R j q with
           | false =>
             rw [r1] at h2; rw [r2] at h4
             simp (disch := omega) only [go_sem, wrO, h1, h2, h3, h4, undef, if_true, if_false, Bool.false_eq_true]
             refine handN_intro (k - (j + 1)) (by omega) ⟨j + 1, pv, D2, by omega, rfl, rfl, hd3, f3, ⟨len, by rw [hflt (by rw [r1, r2]; rfl)]; exact hpo, by rw [hflt (by rw [r1, r2]; rfl)]; exact hlen⟩, hpb, hno (by rw [r1, r2]; rfl)⟩
           | true =>
             rw [r1] at h2; rw [r2] at h4
             simp (disch := omega) only [go_sem, wrO, h1, h2, h3, h4, undef, if_true, if_false, Bool.false_eq_true]
             refine newO_intro fun bn hbn => ?_
             have hnbd : bn ≠ bd := fun e => by rw [e, hd3] at hbn; cases hbn
             simp (disch := omega) only [go_sem, wrO]
             generalize hm3 : Mem.set m2 bn _ = m3
             have f23 : Fr m2 m3 [] := by rw [← hm3]; exact Fr.new _ hbn
             have hn3 : m3 bn = some (.cells [Value.int .i64 (j : Nat)].toArray 3 (0, 0)) := by rw [← hm3]; exact set_self _ _
             have hpbd : ∀ x ∈ blkOf pv, x ≠ bd := fun x hx e => by have := hpb x hx; rw [e] at this; exact hbd0 this
             have hmn : ∀ x, m3 x = none → m2 x = none := fun x hx => by
               cases h' : m2 x with
               | none => rfl
               | some o => rw [f23.get0 h'] at hx; cases hx
             have hm2n : ∀ x, x ≠ bd → m2 x = none → m' x = none := fun x hxb hx => by
               cases h' : m' x with
               | none => rfl
               | some o => rw [f3.get h' (by simpa using hxb)] at hx; cases hx
             clear hm3
             refine app_own (n := len) (k := 1) (c := 1) (news := [.int .i64 (j : Nat)]) (hpo.frame0 f23) rfl ?_ rfl (by simp [Value.oneCell']) rfl (by omega) (by omega) ?_
             · exact ldS_cell (l := [.int .i64 (j : Nat)]) hn3 (by simp)
             intro w4 m4 ho4 f4 hb4
             have hd4 := f4.get (f23.get0 hd3) (fun h => hpbd bd h rfl)
             have hw4 : ∀ x ∈ blkOf w4, m' x = none ∧ x ≠ bd := fun x hx => by
               rcases hb4 x hx with h | h
               · exact ⟨hpb x h, hpbd x h⟩
               · have hxb : x ≠ bd := fun e => by rw [e, f23.get0 hd3] at h; cases h
                 exact ⟨hm2n x hxb (hmn x h), hxb⟩
             have f34 : Fr m' m4 [bd] := (f3.trans (T := []) f23 (fun x hx => by cases hx)).trans f4 (fun x hx hx0 => (hx0 (hpb x hx)).elim)
             simp (disch := omega) only [go_sem, wrO, hd4]
             refine handN_intro (k - (j + 1)) (by omega) ⟨j + 1, w4, _, by omega, rfl, rfl, set_self _ _, f34.transS (Fr.set (by simp)), ⟨len + 1, ?_, ?_⟩, fun x hx => (hw4 x hx).1, fun v => ?_⟩
             · have e : (List.range (j + 1)).filter (fun v => R q v && R v q) = (List.range j).filter (fun v => R q v && R v q) ++ [j] := by
                 rw [List.range_succ, List.filter_append]; simp [r1, r2]
               rw [e]
               have := ho4.frame (m' := m4.set bd (.cells (rb k (Up D2 j true)).toArray 4)) (S := [bd]) (Fr.set (by simp)) (fun x hx => by simpa using (hw4 x hx).2)
               simpa [nats] using this
             · rw [List.range_succ, List.filter_append, List.length_append, ← hlen]; simp [r1, r2]
             · by_cases e : v = j
               · subst e; rw [Up_self]; simp [r1, r2]
               · rw [Up_ne _ e, hD2 v]
                 have : decide (v < j + 1) = decide (v < j) := by rw [decide_eq_decide]; omega
                 rw [this]
       · have hje : j = k := by omega
         subst hje
         obtain ⟨pa, pc, rfl⟩ := hpo.form
         simp (disch := omega) only [go_sem, wrO]
         refine newO_intro fun bn hbn => ?_
         simp (disch := omega) only [go_sem, wrO]
         generalize hm3 : Mem.set m2 bn _ = m3
         have f23 : Fr m2 m3 [] := by rw [← hm3]; exact Fr.new _ hbn
         have hn3 : m3 bn = some (.cells [Value.slice pa len pc].toArray 55 (0, 0)) := by rw [← hm3]; exact set_self _ _
         have hmn : ∀ x, m3 x = none → m2 x = none := fun x hx => by
           cases h' : m2 x with
           | none => rfl
           | some o => rw [f23.get0 h'] at hx; cases hx
         clear hm3
         have ho3 := ho2.frame f3 (fun _ h => h)
         obtain ⟨xs, ow, _⟩ := ho3.own
         have hobd : ∀ x ∈ blkOf ov, x ≠ bd := fun x hx => by simpa using ho3.nx x hx
         refine app_own (k := 1) (c := 1) (news := [.slice pa len pc]) (ow.frame0 f23) rfl ?_ rfl (by simp [Value.oneCell']) rfl (by omega) (by omega) ?_
         · exact ldS_cell (l := [.slice pa len pc]) hn3 (by simp)
         intro w4 m4 ho4 f4 hb4
         simp (disch := omega) only [go_sem, wrO]
         have hunlt : un D2 j < un D j ∧ ∀ r, Out j E (fun x => D2 x = true) r → Out j E (fun _ => False) ((l ++ [(List.range j).filter fun v => R q v && R v q]) ++ r) := by
           have hqq := (hR q q hqk hqk).2 (.refl _)
           refine ⟨un_lt (fun v hv => by rw [hD2 v, hv]; rfl) hDq (by rw [hD2 q, hqq]; simp [hqk]) hqk, fun r hr => ?_⟩
           rw [List.append_assoc]
           refine hpre _ (.cons (i := q) hqfree (fun u hu hf => by have := (fB_free hR D hf.1).2 hf; rw [hqmin u hu] at this; cases this) (fun v hv => ?_) ?_)
           · simp only [Bool.and_eq_true, hR q v hqk hv, hR v q hv hqk]; exact Iff.rfl
           · have e : (fun x => D x = true ∨ (x < j ∧ Scc j E q x)) = fun x => D2 x = true := by
               funext x
               apply propext
               rw [hD2 x]
               simp only [Bool.or_eq_true, Bool.and_eq_true, decide_eq_true_eq]
               constructor
               · rintro (h | ⟨h1, h2⟩)
                 · exact .inl h
                 · exact .inr ⟨h1, (hR q x hqk h1).2 h2.1, (hR x q h1 hqk).2 h2.2⟩
               · rintro (h | ⟨h1, h2, h3⟩)
                 · exact .inl h
                 · exact .inr ⟨h1, (hR q x hqk h1).1 h2, (hR x q h1 hqk).1 h3⟩
             rw [e]; exact hr
         have hpa : ∀ x ∈ blkOf (.slice pa len pc), m' x = none ∧ m2 x ≠ none ∧ x ≠ bd := fun x hx =>
           ⟨hpb x hx, hpo.there x hx, fun e => by have := hpb x hx; rw [e] at this; exact hbd0 this⟩
         refine handN_intro (un D2 j) hunlt.1 ⟨D2, l ++ [(List.range j).filter fun v => R q v && R v q], w4, rfl, rfl, ?_, ?_, ?_, ?_, ?_, hunlt.2⟩
         · exact f4.get (f23.get0 hd3) (fun h => hobd bd h rfl)
         · obtain ⟨a', c', e', hr'⟩ := hpo.rd
           cases e'
           subst hlen
           refine ho3.push (c := pc) hr' (fun p hp => ?_) f23 hmn (fun x hx => ?_) (fun xs' ow' => ?_) f4 hb4
           · have h := hpa p.block (by rw [hp]; simp [blkOf])
             refine ⟨fun hx => ?_, h.2.1, by simpa using h.2.2⟩
             have hx' := ow.there _ hx
             obtain ⟨xs0, ow0, _⟩ := ho2.own
             exact ow0.there _ hx h.1
           · simp only [List.mem_singleton] at hx; subst hx; rw [hd3]; exact Option.some_ne_none _
           · have hxe : xs' = xs := ow'.uniq ow
             subst hxe; exact ho4
         · intro x hx
           rcases hb4 x hx with h | h
           · exact hb2 x h
           · cases h' : m1 x with
             | none => rfl
             | some o => have := hmn x h; rw [f13.get0 h'] at this; cases this
         · exact (f13.trans0 f23).trans f4 (fun x hx hx0 => (hx0 (hb2 x hx)).elim)
         · simp only [List.length_append, List.length_cons, List.length_nil]; have := hunlt.1; omega)
end Go.Fw

set_option linter.unusedSimpArgs false
set_option linter.unusedVariables false
namespace Go.Fw
open Go.Proofs
/-- the first commit of an instance -/
def getL (k : I2) : List Kn → Option Cel
  | [] => none
  | p :: r => if p.1 = k ∧ p.2.st = 3 then some p.2 else getL k r
theorem getL_snoc (k : I2) (x : Kn) : ∀ l : List Kn, getL k (l ++ [x]) = match getL k l with | some c => some c | none => if x.1 = k ∧ x.2.st = 3 then some x.2 else none
  | [] => by simp [getL]
  | p :: r => by
    simp only [List.cons_append, getL]
    split
    · rfl
    · exact getL_snoc k x r
theorem getL_plC (k : I2) (R : List Kn) : getL k R = lkC k (plC R) := foldl_snoc_ind (P := fun l C => getL k l = lkC k C) (by simp [getL, lkC]) (fun l C x h => by
  rw [getL_snoc, h]
  unfold plS
  by_cases hx : lkC x.1 C ≠ none ∨ x.2.st ≠ 3
  · rw [if_pos hx]
    cases e : lkC k C with
    | some c => rfl
    | none =>
      simp only
      rw [if_neg]
      rintro ⟨h1, h2⟩
      rcases hx with hx | hx
      · rw [h1] at hx; exact hx e
      · exact hx h2
  · rw [if_neg hx, lkC_snoc]
    have h3 : x.2.st = 3 := Classical.byContradiction fun hn => hx (.inr hn)
    cases e : lkC k C with
    | some c => rfl
    | none => simp only [h3, and_true]) R
set_option maxHeartbeats 4000000 in
theorem ref19_get_s {m : Mem} {R : List Kn} {sv : Value} (hR : RdS 23 knE m sv R) (hl : R.length ≤ 1000) (k : I2) :
    MC Try.prog n_ref19_get [sv, pv k] m fun v M => v = .tuple #[((lkC k (plC R)).getD Cel.zero).v, .bool (lkC k (plC R)).isSome] ∧ Fr m M [] := by
  obtain ⟨sa, sc, esv⟩ := hR.form
  subst esv
  rw [← getL_plC]
  refine ref19_get_go (by simp [Try.f33]) ?_
  have H := Hq.refl m []
  simp (disch := omega) only [go_sem, undef]
  refine newQ H fun b3 M f H => ?_
  simp (disch := omega) only [go_sem, undef]
  refine newQ H fun b4 M f H => ?_
  simp (disch := omega) only [go_sem, undef]
  refine loopQ_intro (fun n E m' => ∃ j, j ≤ R.length ∧ n = R.length - j ∧ E = [(0, .slice sa R.length sc), (3, .pointer (some ⟨b3, 0, none⟩)), (4, .pointer (some ⟨b4, 0, none⟩)), (6, .int .i64 (j : Nat))] ∧ getL k (R.drop j) = getL k R ∧
    Hq m m' [] [cellA b4 (.cells Cel.zero.cs.toArray 38 (0, 0)), cellA b3 (.cells (pc k).toArray 23 (0, 0))]) R.length rfl ⟨0, by omega, rfl, rfl, rfl, H⟩ ?_
  clear H f
  rintro n E m' ⟨j, hj, rfl, rfl, hg, H⟩
  simp (disch := omega) only [go_sem, undef]
  refine condB_dec (fun hlt => ?_) (fun hlt => ?_)
  · have hlt : j < R.length := by omega
    refine RdS.elK (hR.frame H.fr) hlt (by decide) fun bx o p hp hix hE => ?_
    have hdr : R.drop j = p :: R.drop (j + 1) := by
      rw [List.drop_eq_getElem_cons hlt]
      have := (List.getElem?_eq_some_iff.1 hp).2
      rw [this]
    rw [hdr] at hg
    simp only [getL] at hg
    by_cases h1 : p.1 = k
    · by_cases h2 : p.2.st = 3
      · rw [if_pos ⟨h1, h2⟩] at hg
        simp (disch := omega) only [go_sem, undef, hix, hE.lda0, H.cs, pc_take, dec_t h1, hE.ld, dec_t h2, hE.lda]
        refine stwQ0 H rfl rfl fun M f H => ?_
        simp (disch := omega) only [go_sem, undef, H.cs, Cel.all]
        rw [← hg]
        exact ⟨rfl, H.fr⟩
      · rw [if_neg (fun h => h2 h.2)] at hg
        simp (disch := omega) only [go_sem, undef, hix, hE.lda0, H.cs, pc_take, dec_t h1, hE.ld, dec_f h2]
        exact handN_intro (R.length - (j + 1)) (by omega) ⟨j + 1, by omega, rfl, rfl, hg, H⟩
    · rw [if_neg (fun h => h1 h.1)] at hg
      simp (disch := omega) only [go_sem, undef, hix, hE.lda0, H.cs, pc_take, dec_f h1]
      exact handN_intro (R.length - (j + 1)) (by omega) ⟨j + 1, by omega, rfl, rfl, hg, H⟩
  · have e : j = R.length := by omega
    subst e
    rw [List.drop_length] at hg
    simp (disch := omega) only [go_sem, undef]
    refine stwQ0 H rfl rfl fun M f H => ?_
    simp (disch := omega) only [go_sem, undef, H.cs, Cel.all]
    rw [← hg]
    exact ⟨rfl, H.fr⟩
theorem beyond_iff {R : List Kn} {root : I2} : beyond (plC R) root ↔ ∃ p ∈ R, p.2.st = 3 ∧ p.1.1 = root.1 ∧ root.2 < p.1.2 := by
  have P := plC_PC R
  constructor
  · rintro ⟨i, hi, h1, h2⟩
    obtain ⟨c, hc⟩ := Option.ne_none_iff_exists'.1 (fun h => lkC_none.1 h hi)
    have := P.some i c hc
    exact ⟨_, this.1, this.2, h1, h2⟩
  · rintro ⟨p, hp, h3, h1, h2⟩
    refine ⟨p.1, Classical.byContradiction fun hn => P.none p.1 (lkC_none.2 hn) p.2 hp h3, h1, h2⟩
set_option maxHeartbeats 4000000 in
theorem ref19_beyond_s {m : Mem} {R : List Kn} {sv : Value} (hR : RdS 23 knE m sv R) (hl : R.length ≤ 1000) (k : I2) :
    MC Try.prog n_ref19_beyond [sv, pv k] m fun v M => v = .bool (decide (beyond (plC R) k)) ∧ Fr m M [] := by
  obtain ⟨sa, sc, esv⟩ := hR.form
  subst esv
  refine ref19_beyond_go (by simp [Try.f33]) ?_
  have H := Hq.refl m []
  simp (disch := omega) only [go_sem, undef]
  refine newQ H fun b3 M f H => ?_
  simp (disch := omega) only [go_sem, undef]
  refine loopQ_intro (fun n E m' => ∃ j, j ≤ R.length ∧ n = R.length - j ∧ E = [(0, .slice sa R.length sc), (3, .pointer (some ⟨b3, 0, none⟩)), (5, .int .i64 (j : Nat))] ∧ (∀ p ∈ R.take j, ¬ (p.2.st = 3 ∧ p.1.1 = k.1 ∧ k.2 < p.1.2)) ∧
    Hq m m' [] [cellA b3 (.cells (pc k).toArray 23 (0, 0))]) R.length rfl ⟨0, by omega, rfl, rfl, by simp, H⟩ ?_
  clear H f
  rintro n E m' ⟨j, hj, rfl, rfl, hg, H⟩
  simp (disch := omega) only [go_sem, undef]
  refine condB_dec (fun hlt => ?_) (fun hlt => ?_)
  · have hlt : j < R.length := by omega
    refine RdS.elK (hR.frame H.fr) hlt (by decide) fun bx o p hp hix hE => ?_
    have hnext : ¬ (p.2.st = 3 ∧ p.1.1 = k.1 ∧ k.2 < p.1.2) → ∀ q ∈ R.take (j + 1), ¬ (q.2.st = 3 ∧ q.1.1 = k.1 ∧ k.2 < q.1.2) := fun h q hq => by
      rw [List.take_add_one, hp] at hq
      rcases List.mem_append.1 hq with hq | hq
      · exact hg q hq
      · simp at hq; subst hq; exact h
    by_cases h1 : p.2.st = 3
    · by_cases h2 : p.1.1 = k.1
      · by_cases h3 : k.2 < p.1.2
        · simp (disch := omega) only [go_sem, undef, hix, hE.ld, hE.ld0, H.cs, dec_t h1, dec_t h2, dec_t h3]
          refine ⟨?_, H.fr⟩
          rw [decide_eq_true (beyond_iff.2 ⟨p, List.mem_of_getElem? hp, h1, h2, h3⟩)]
        · simp (disch := omega) only [go_sem, undef, hix, hE.ld, hE.ld0, H.cs, dec_t h1, dec_t h2, dec_f h3]
          exact handN_intro (R.length - (j + 1)) (by omega) ⟨j + 1, by omega, rfl, rfl, hnext (fun h => h3 h.2.2), H⟩
      · simp (disch := omega) only [go_sem, undef, hix, hE.ld, hE.ld0, H.cs, dec_t h1, dec_f h2]
        exact handN_intro (R.length - (j + 1)) (by omega) ⟨j + 1, by omega, rfl, rfl, hnext (fun h => h2 h.2.1), H⟩
    · simp (disch := omega) only [go_sem, undef, hix, hE.ld, hE.ld0, H.cs, dec_f h1]
      exact handN_intro (R.length - (j + 1)) (by omega) ⟨j + 1, by omega, rfl, rfl, hnext (fun h => h1 h.1), H⟩
  · have e : j = R.length := by omega
    subst e
    rw [List.take_length] at hg
    simp (disch := omega) only [go_sem, undef]
    refine ⟨?_, H.fr⟩
    rw [decide_eq_false (fun h => by obtain ⟨p, hp, h1, h2, h3⟩ := beyond_iff.1 h; exact hg p hp ⟨h1, h2, h3⟩)]
theorem knE_g14 (p : I2 × Cel) : (knE p)[14]? = some (.int .i64 p.2.att.seq) := rfl
theorem ref19_below_s (a b : Kn) (m : Mem) : MC Try.prog n_ref19_below [.agg (knE a).toArray, .agg (knE b).toArray] m fun v M => v = .bool (decide (belowP a b)) ∧ Fr m M [] := by
  refine ref19_below_go (by simp [Try.f33]) ?_
  have H := Hq.refl m []
  simp (disch := omega) only [go_sem, undef]
  refine newQ H fun b2 M f H => ?_
  simp (disch := omega) only [go_sem, undef]
  refine newQ H fun b3 M f H => ?_
  by_cases h : a.2.att.seq = b.2.att.seq
  · simp (disch := omega) only [go_sem, undef, H.cs, knE_g14, dec_t h, Nat.add_assoc]
    refine callQ H (ref1_Less_s a.1 b.1 _) fun M f H => ?_
    simp (disch := omega) only [go_sem, undef]
    refine ⟨?_, H.fr⟩
    simp only [Value.bool.injEq, belowP, decide_eq_decide]
    have : ¬ a.2.att.seq < b.2.att.seq := by omega
    simp [h]
  · simp (disch := omega) only [go_sem, undef, H.cs, knE_g14, dec_f h, Nat.add_assoc]
    refine ⟨?_, H.fr⟩
    simp only [Value.bool.injEq, belowP, decide_eq_decide]
    simp [h]
end Go.Fw

set_option linter.unusedSimpArgs false
set_option linter.unusedVariables false
namespace Go.Fw
open Go.Proofs
theorem RdS.elO {α : Type} {k : Nat} {enc : α → List Value} {m : Mem} {b c n i : Nat} {l : List α} {x : α} (h : RdS k enc m (.slice (some ⟨b, 0, none⟩) n c) l) (e : l.length = n) (hx : l[i]? = some x) (k0 : 0 < k) : El k enc m b (i * k) x := by
  subst e
  have hi := (List.getElem?_eq_some_iff.1 hx).1
  have hx' := (List.getElem?_eq_some_iff.1 hx).2
  obtain ⟨b', o, e, _, hc⟩ := h.at hi k0
  cases e
  refine ⟨h.1 _, fun j v hv => ?_⟩
  have := hc j v (by rw [hx']; exact hv)
  rwa [Nat.zero_add] at this
/-- one of a row is written over -/
theorem stRow {m0 m : Mem} {Sx : List Nat} {L : List As} {t : TypeId} {b n cap k : Nat} {S : List Kn} {q : Kn} {J : Mem → Prop} {l : Lk J} {l' : Lk m}
    (H : Hq m0 m Sx (ownA t 23 (.slice (some ⟨b, 0, none⟩) n cap) n (S.flatMap knE) :: L)) (hS : S.length = n) (hk : k < n)
    (K : ∀ M, Fr m M [b] → Hq m0 M Sx (ownA t 23 (.slice (some ⟨b, 0, none⟩) n cap) n ((S.set k q).flatMap knE) :: L) → J M) : stQ m ⟨b, k * 23, none⟩ 0 (knE q) J l l' := by
  refine Own.rowK (H.at 0 rfl) (by omega) fun b' cap' tail e hb hl => ?_
  cases e
  have H2 := H.toCell hb
  have hfl : (S.flatMap knE).length = n * 23 := by rw [fm_len knE_len, hS]
  refine stQ' 0 H2 rfl (by rw [List.length_append, hfl, knE_len]; omega) (knE_oneP q) fun M f H3 => ?_
  have hc : (S.flatMap knE ++ tail).take (k * 23) ++ knE q ++ (S.flatMap knE ++ tail).drop (k * 23 + (knE q).length) = (S.set k q).flatMap knE ++ tail := by
    have h1 : S = S.take k ++ (S[k]'(by omega)) :: S.drop (k + 1) := by
      rw [← List.drop_eq_getElem_cons (by omega), List.take_append_drop]
    have h2 : S.set k q = S.take k ++ q :: S.drop (k + 1) := by
      rw [List.set_eq_take_append_cons_drop, if_pos (by omega)]
    have hlk : ((S.take k).flatMap knE).length = k * 23 := by rw [fm_len knE_len, List.length_take, Nat.min_eq_left (by omega)]
    have h3 : S.flatMap knE ++ tail = (S.take k).flatMap knE ++ (knE (S[k]'(by omega)) ++ ((S.drop (k + 1)).flatMap knE ++ tail)) := by
      conv => lhs; rw [h1]
      simp only [List.flatMap_append, List.flatMap_cons, List.append_assoc]
    rw [h2, h3, ← hlk, List.take_left, knE_len]
    rw [show ((S.take k).flatMap knE).length + 23 = ((S.take k).flatMap knE ++ knE (S[k]'(by omega))).length by rw [List.length_append, knE_len], ← List.append_assoc ((S.take k).flatMap knE) (knE _), List.drop_left]
    simp only [List.flatMap_append, List.flatMap_cons, List.append_assoc]
  rw [hc] at H3
  refine K M f (H3.ofCell (by rw [fm_len knE_len, List.length_set, hS]) (by
    rw [← hl, List.length_append, List.length_append, hfl, fm_len knE_len, List.length_set, hS]))
abbrev ordC3 : NC := .seq (.seq ref19_order_r24 (.block 8 (.loop [5, 13, 14, 15] ref19_order_l7))) (.seq ref19_order_r40 .ret)
abbrev ordC2 : NC := .seq ref19_order_r22 (.seq ref19_order_r23 ordC3)
abbrev ordC1 : NC := .seq ref19_order_r9 (.seq (.seq ref19_order_r10 (.block 4 (.loop [5, 8, 9] ref19_order_l3))) ordC2)
theorem ord_code : ref19_order_c = .seq ref19_order_r0 (.seq ref19_order_r1 (.seq (.seq ref19_order_r2 (.block 0 (.loop [5, 6] ref19_order_l1))) ordC1)) := rfl
set_option maxHeartbeats 8000000 in
theorem ord_sort1 {m : Mem} {K : List Kn} {sv : Value} {d : Dp} (hR : RdS 23 knE m sv K) (hl : K.length ≤ 100) (hn : (K.map Prod.fst).Nodup) {Rt : Value → Mem → Prop}
    (hk : ∀ (E : Env) (u : Value) (S : List Kn) (M : Mem), E.get 5 = u → E.has 5 = true → S.Pairwise ltA → S.Perm K → Hq m M [] [ownA 52 23 u S.length (S.flatMap knE)] → wpN Try.prog ordC1 (retP [RV.slot 4] Rt) E M) :
    MC Try.prog n_ref19_order [d.v, sv] m Rt := by
  obtain ⟨sa, sc, esv⟩ := hR.form
  subst esv
  refine ref19_order_go (by simp [Try.f33]) ?_
  rw [ord_code]
  generalize ordC1 = C1 at *
  have H := Hq.refl m []
  simp (disch := omega) only [go_sem, undef]
  refine newQ H fun b1 M f H => ?_
  simp (disch := omega) only [go_sem, undef]
  refine newQ H fun b0 M f H => ?_
  have H := H.toRow 23 0 0 rfl (by omega)
  simp (disch := omega) only [go_sem, undef]
  refine appQ0 H rfl (news := K.flatMap knE) (ldS_of (hR.frame H.fr)) (fm_len knE_len _) (fun v hv => ?_) rfl (by omega) (by omega) fun u M f H => ?_
  · obtain ⟨p, _, hv⟩ := List.mem_flatMap.1 hv
    exact List.all_eq_true.1 (knE_oneP p) v hv
  have H := H.drop 1
  obtain ⟨N, hN⟩ : ∃ N, N = K.length := ⟨_, rfl⟩
  have H : Hq m M [] [ownA 52 23 u N (K.flatMap knE)] := by rw [hN]; rw [Nat.zero_add] at H; exact H
  refine Own.formK (H.at 0 rfl) fun ua uc e => ?_
  subst e
  rw [← hN] at hl
  simp (disch := omega) only [go_sem, undef]
  refine loopQ_intro (fun z E m' => ∃ i P, 1 ≤ i ∧ z = N + 1 - i ∧ E = [(5, .slice ua N uc), (6, .int .i64 (i : Nat))] ∧ (i ≤ N ∨ (i = 1 ∧ N = 0)) ∧ P.Pairwise ltA ∧ P.Perm (K.take i) ∧
    Hq m m' [] [ownA 52 23 (.slice ua N uc) N ((P ++ K.drop i).flatMap knE)]) N rfl ⟨1, K.take 1, by omega, by omega, rfl, by omega, by
      match K with
      | [] => exact .nil
      | a :: r => simp, List.Perm.refl _, by rw [List.take_append_drop]; exact H⟩ ?_
  clear H f
  rintro z E M ⟨i, P, hi1, rfl, rfl, hiN, hsP, hpP, H⟩
  simp (disch := omega) only [go_sem, undef]
  refine condB_dec (fun hlt => ?_) (fun hlt => ?_)
  · have hlt : i < N := by omega
    obtain ⟨x, hx⟩ : ∃ x, K[i]? = some x := ⟨_, List.getElem?_eq_getElem (by omega)⟩
    have hI := Ins.start hsP hpP hx
    have hdr : K.drop i = x :: K.drop (i + 1) := by
      rw [List.drop_eq_getElem_cons (by omega)]
      have := (List.getElem?_eq_some_iff.1 hx).2
      rw [this]
    have hL : P ++ K.drop i = insL K i P [] x := by rw [hdr]; rfl
    rw [hL] at H
    simp (disch := omega) only [go_sem, undef]
    refine loopQ_intro (fun z E m' => ∃ k P Q, z = k ∧ E = [(5, .slice ua N uc), (6, .int .i64 (i : Nat)), (7, .int .i64 (k : Nat))] ∧ Ins ltA K i k P Q x ∧
      Hq m m' [] [ownA 52 23 (.slice ua N uc) N ((insL K i P Q x).flatMap knE)]) i rfl ⟨i, P, [], rfl, rfl, hI, H⟩ ?_
    clear H hI hL hsP hpP
    rintro k E M ⟨_, P, Q, rfl, rfl, hI, H⟩
    have hlenL := hI.lenQ
    rw [← hN] at hlenL
    have hRd : ∀ {M : Mem} {T : List Kn}, T.length = N → Own M 52 23 (.slice ua N uc) N (T.flatMap knE) → RdS 23 knE M (.slice ua N uc) T := fun e h => Own.rdsN (by decide) knE_len e h
    rcases List.eq_nil_or_concat P with rfl | ⟨P0, y, rfl⟩
    · have hk0 : k = 0 := by have := hI.len; simpa using this.symm
      subst hk0
      have hst := hI.stop ord_A hn (by simp)
      rw [Ins.next] at H
      simp (disch := omega) only [go_sem, undef, dec_f (show ¬ (0 : Int) < ((0 : Nat) : Int) by decide)]
      exact handN_intro (N + 1 - (i + 1)) (by omega) ⟨i + 1, [] ++ x :: Q, by omega, by omega, rfl, by omega, hst.1, hst.2, H⟩
    · rw [List.concat_eq_append] at *
      have hkl : k = P0.length + 1 := by have := hI.len; simp at this; omega
      subst hkl
      obtain ⟨gx, gy, gs⟩ := ins_at (O := K) (P := P0) (Q := Q) (i := i) (x := x) (y := y)
      have hpN : P0.length + 1 < N := by
        have := (List.getElem?_eq_some_iff.1 gx).1; omega
      have hk1 : ((P0.length + 1 : Nat) : Int) - 1 = (P0.length : Nat) := by omega
      refine Own.rowK (H.at 0 rfl) (by omega) fun ub ucap tail ea _ _ => ?_
      cases ea
      have hE := (hRd hlenL (H.at 0 rfl)).elO hlenL gx (by decide)
      have hE' := (hRd hlenL (H.at 0 rfl)).elO hlenL gy (by decide)
      simp (disch := omega) only [go_sem, undef, dec_t (show (0 : Int) < ((P0.length + 1 : Nat) : Int) by omega), hk1, hE.lda0, hE'.lda0]
      refine callQ H (ref1_Less_s x.1 y.1 _) fun M f H => ?_
      have hE := hE.frame f
      have hE' := hE'.frame f
      by_cases hxy : lt2 x.1 y.1
      · simp (disch := omega) only [go_sem, undef, dec_t hxy, hk1, hE.lda0, hE'.lda0]
        refine stRow H hlenL hpN fun M f H => ?_
        simp (disch := omega) only [go_sem, undef, hk1]
        refine stRow H (by rw [List.length_set]; exact hlenL) (by omega) fun M f H => ?_
        rw [gs] at H
        simp (disch := omega) only [go_sem, undef, hk1]
        exact handN_intro P0.length (by omega) ⟨P0.length, P0, y :: Q, rfl, rfl, hI.swap hxy, H⟩
      · have hst := hI.stop ord_A hn (by simpa [ltA] using hxy)
        rw [Ins.next] at H
        simp (disch := omega) only [go_sem, undef, dec_f hxy]
        exact handN_intro (N + 1 - (i + 1)) (by omega) ⟨i + 1, (P0 ++ [y]) ++ x :: Q, by omega, by omega, rfl, by omega, hst.1, hst.2, H⟩
  · have hd : K.drop i = [] := List.drop_eq_nil_iff.2 (by omega)
    have ht : K.take i = K := List.take_of_length_le (by omega)
    rw [hd, List.append_nil] at H
    rw [ht] at hpP
    simp (disch := omega) only [go_sem, undef]
    exact hk _ _ P M rfl rfl hsP hpP (by rw [← hpP.length_eq, ] at hN; rw [← hN]; exact H)
end Go.Fw

set_option linter.unusedSimpArgs false
set_option linter.unusedVariables false
namespace Go.Fw
open Go.Proofs
def xsG (e : Nat → Nat → Bool) (N a k p : Nat) : List Nat := if p < a then (List.range N).filter (e p) else if p = a then (List.range k).filter (e a) else []
section
variable {e : Nat → Nat → Bool} {N a k : Nat}
theorem xsG_0 : xsG e N 0 0 = fun _ => [] := by
  funext p; simp only [xsG, Nat.not_lt_zero, if_false]; split <;> simp
theorem xsG_self : xsG e N a k a = (List.range k).filter (e a) := by simp [xsG]
theorem xsG_t (h : e a k = true) : xsG e N a (k + 1) = Up (xsG e N a k) a (xsG e N a k a ++ [k]) := by
  funext p
  by_cases ep : p = a
  · subst ep; rw [Up_self, xsG_self, xsG_self, List.range_succ, List.filter_append]; simp [h]
  · rw [Up_ne _ ep]; simp [xsG, ep]
theorem xsG_f (h : e a k = false) : xsG e N a (k + 1) = xsG e N a k := by
  funext p
  by_cases ep : p = a
  · subst ep; rw [xsG_self, xsG_self, List.range_succ, List.filter_append]; simp [h]
  · simp [xsG, ep]
theorem xsG_end : xsG e N a N = xsG e N (a + 1) 0 := by
  funext p
  by_cases ep : p = a
  · subst ep; rw [xsG_self]; simp [xsG]
  · by_cases h : p < a
    · simp [xsG, h, show p < a + 1 by omega]
    · simp [xsG, h, ep, show ¬ p < a + 1 by omega]
theorem xsG_len (hk : k ≤ N) : (xsG e N a k a).length ≤ N := by
  rw [xsG_self]; have := List.length_filter_le (e a) (List.range k); rw [List.length_range] at this; omega
end
set_option maxHeartbeats 8000000 in
theorem ord_edges {m0 m : Mem} {C : LogL} {S : List I2} (hl : S.length ≤ 100) (hlow : ∀ i ∈ S, (0 ≤ i.1 ∧ i.1 < 7) ∧ 1 ≤ i.2 ∧ i.2 ≤ 1000) {u : Value}
    (H : Hq m0 m [] [ownA 52 23 u S.length ((kmap C S).flatMap knE)]) {Rt : Value → Mem → Prop} {E : Env} (h5 : E.get 5 = u) (h5' : E.has 5 = true)
    (hk : ∀ (E : Env) (b : Nat) (f : Nat → Value) (M : Mem), E.get 5 = u → E.has 5 = true → E.get 8 = .slice (some ⟨b, 0, none⟩) S.length S.length → E.has 8 = true →
      Hq m0 M [] [rowsA b S.length f (xsG (eR C S) S.length S.length 0), ownA 52 23 u S.length ((kmap C S).flatMap knE)] → wpN Try.prog ordC2 (retP [RV.slot 4] Rt) E M) :
    wpN Try.prog ordC1 (retP [RV.slot 4] Rt) E m := by
  unfold ordC1
  generalize ordC2 = C2 at *
  obtain ⟨N, hN⟩ : ∃ N, N = S.length := ⟨_, rfl⟩
  rw [← hN] at hl H hk
  refine Own.formK (H.at 0 rfl) fun ua uc ea => ?_
  subst ea
  simp (disch := omega) only [go_sem, undef, h5, h5']
  refine newO_intro fun b5 hb5 => ?_
  have H := H.rowsNew (N := N) hb5
  generalize m.set b5 (.cells (rv N fun _ => .slice none 0 0).toArray 55) = M at *
  simp (disch := omega) only [go_sem, undef, h5, h5']
  rw [← xsG_0 (e := eR C S) (N := N)] at H
  have hRd : ∀ {M : Mem}, Own M 52 23 (.slice ua N uc) N ((kmap C S).flatMap knE) → RdS 23 knE M (.slice ua N uc) (kmap C S) := fun h => Own.rdsN (by decide) knE_len (by rw [kmap_len, hN]) h
  refine loopQ_intro (fun n E m' => ∃ a f, a ≤ N ∧ n = N - a ∧ E = [(5, .slice ua N uc), (8, .slice (some ⟨b5, 0, none⟩) N N), (9, .int .i64 (a : Nat))] ∧
    Hq m0 m' [] [rowsA b5 N f (xsG (eR C S) N a 0), ownA 52 23 (.slice ua N uc) N ((kmap C S).flatMap knE)]) N rfl ⟨0, _, by omega, by omega, rfl, H⟩ ?_
  clear H hb5
  rintro n E' m' ⟨a, f, ha, rfl, rfl, H⟩
  simp (disch := omega) only [go_sem, undef]
  refine condB_dec (fun hlt => ?_) (fun hlt => ?_)
  · have hlt : a < N := by omega
    simp (disch := omega) only [go_sem, undef]
    refine loopQ_intro (fun n E m' => ∃ k f, k ≤ N ∧ n = N - k ∧ E = [(5, .slice ua N uc), (8, .slice (some ⟨b5, 0, none⟩) N N), (9, .int .i64 (a : Nat)), (10, .int .i64 (k : Nat))] ∧
      Hq m0 m' [] [rowsA b5 N f (xsG (eR C S) N a k), ownA 52 23 (.slice ua N uc) N ((kmap C S).flatMap knE)]) N rfl ⟨0, f, by omega, by omega, rfl, H⟩ ?_
    clear H
    rintro n E'' m' ⟨k, f, hk', rfl, rfl, H⟩
    simp (disch := omega) only [go_sem, undef]
    refine condB_dec (fun hlk => ?_) (fun hlk => ?_)
    · have hlk : k < N := by omega
      refine RdS.elN (hRd (H.at 1 rfl)) (by rw [kmap_len, hN]) hlk (by decide) fun bx o p hp hix hE => ?_
      refine RdS.elN (hRd (H.at 1 rfl)) (by rw [kmap_len, hN]) hlt (by decide) fun bx' o' p' hp' hix' hE' => ?_
      have hy : S[k]? = some (nthI S k) := by unfold nthI; rw [List.getD_eq_getElem?_getD, List.getElem?_eq_getElem (by omega)]; rfl
      have hx : S[a]? = some (nthI S a) := by unfold nthI; rw [List.getD_eq_getElem?_getD, List.getElem?_eq_getElem (by omega)]; rfl
      rw [kmap_get, hy] at hp
      rw [kmap_get, hx] at hp'
      have ep : p = kel C (nthI S k) := (Option.some.inj hp).symm
      have ep' : p' = kel C (nthI S a) := (Option.some.inj hp').symm
      subst ep
      subst ep'
      have hyl := hlow _ (List.mem_of_getElem? hy)
      have hxl := hlow _ (List.mem_of_getElem? hx)
      have heb : eR C S a k = decide ((nthI S k).2 ≤ upto (nthI S a) ((lkC (nthI S a) C).getD Cel.zero).att (nthI S k).1.toNat) := rfl
      generalize nthI S k = y at *
      generalize nthI S a = x at *
      generalize hcx : (lkC x C).getD Cel.zero = cx at *
      obtain ⟨y1, y2⟩ := y
      obtain ⟨r, rfl⟩ := Int.eq_ofNat_of_zero_le hyl.1.1
      have hr7 : r < 7 := by have := hyl.1.2; simp only at this; omega
      rw [show upto x cx.att (((r : Int), y2) : I2).1.toNat = upto x cx.att r from rfl] at heb
      simp (disch := omega) only [go_sem, undef, hix, hE.lda0]
      refine newQ H fun b11 M f1 H => ?_
      simp (disch := omega) only [go_sem, undef]
      refine stwQ0 H rfl rfl fun M f2 H => ?_
      refine RdS.elN (hRd (H.at 2 rfl)) (by rw [kmap_len, hN]) hlt (by decide) fun bx2 o2 p2 hp2 hix2 hE2 => ?_
      rw [kmap_get, hx] at hp2
      have ep2 : p2 = (x, (lkC x C).getD Cel.zero) := (Option.some.inj hp2).symm
      rw [hcx] at ep2
      subst ep2
      have hgd : (knE (x, cx))[15 + r]? = some (.int .i64 (cx.att.deps.g r)) := knE_gd _ r hr7
      by_cases h1 : (r : Int) = x.1
      · have hto : upto x cx.att r = max (cx.att.deps.g r) (x.2 - 1) := by unfold upto; rw [if_pos h1]
        rw [hto] at heb
        simp (disch := omega) only [go_sem, undef, H.cs, hix2, Nat.add_assoc, hE2.ld, hE2.ld0, hgd, dec_t h1]
        have H := dropQ0 H
        refine condB_dec (fun h2 => ?_) (fun h2 => ?_)
        · rw [decide_eq_true h2] at heb
          have hrb := (H.at 0 rfl : Rows _ b5 N f (xsG (eR C S) N a k)).hb
          simp (disch := omega) only [go_sem, undef, hrb]
          refine newQ H fun b12 M f3 H => ?_
          have hrb := (H.at 1 rfl : Rows _ b5 N f (xsG (eR C S) N a k)).hb
          simp (disch := omega) only [go_sem, undef, hrb]
          refine appRows H hlt (by have := xsG_len (e := eR C S) (a := a) hk'; omega) fun w M wa wc ew hrb H => ?_
          subst ew
          simp (disch := omega) only [go_sem, undef, hrb, wrO]
          rw [← xsG_t heb] at H
          exact handN_intro (N - (k + 1)) (by omega) ⟨k + 1, _, by omega, rfl, rfl, H⟩
        · rw [decide_eq_false h2] at heb
          rw [← xsG_f heb] at H
          simp (disch := omega) only [go_sem, undef]
          exact handN_intro (N - (k + 1)) (by omega) ⟨k + 1, f, by omega, rfl, rfl, H⟩
      · have hto : upto x cx.att r = cx.att.deps.g r := by unfold upto; rw [if_neg h1]
        rw [hto] at heb
        simp (disch := omega) only [go_sem, undef, H.cs, hix2, Nat.add_assoc, hE2.ld, hE2.ld0, hgd, dec_f h1]
        have H := dropQ0 H
        refine condB_dec (fun h2 => ?_) (fun h2 => ?_)
        · rw [decide_eq_true h2] at heb
          have hrb := (H.at 0 rfl : Rows _ b5 N f (xsG (eR C S) N a k)).hb
          simp (disch := omega) only [go_sem, undef, hrb]
          refine newQ H fun b12 M f3 H => ?_
          have hrb := (H.at 1 rfl : Rows _ b5 N f (xsG (eR C S) N a k)).hb
          simp (disch := omega) only [go_sem, undef, hrb]
          refine appRows H hlt (by have := xsG_len (e := eR C S) (a := a) hk'; omega) fun w M wa wc ew hrb H => ?_
          subst ew
          simp (disch := omega) only [go_sem, undef, hrb, wrO]
          rw [← xsG_t heb] at H
          exact handN_intro (N - (k + 1)) (by omega) ⟨k + 1, _, by omega, rfl, rfl, H⟩
        · rw [decide_eq_false h2] at heb
          rw [← xsG_f heb] at H
          simp (disch := omega) only [go_sem, undef]
          exact handN_intro (N - (k + 1)) (by omega) ⟨k + 1, f, by omega, rfl, rfl, H⟩
    · have ek : k = N := by omega
      subst ek
      rw [xsG_end] at H
      simp (disch := omega) only [go_sem, undef]
      exact handN_intro (k - (a + 1)) (by omega) ⟨a + 1, f, by omega, rfl, rfl, H⟩
  · have ea : N = a := by omega
    subst ea
    simp (disch := omega) only [go_sem, undef]
    exact hk _ _ _ _ rfl rfl rfl rfl H
end Go.Fw

set_option linter.unusedSimpArgs false
set_option linter.unusedVariables false
namespace Go.Fw
open Go.Proofs
abbrev ordG (C : LogL) (S : List I2) (part : List Nat) : List I2 := (sortK (seqK C S) part).map (nthI S)
theorem kmap_flat (C : LogL) {α : Type} (g : α → List I2) : ∀ l : List α, kmap C (l.flatMap g) = l.flatMap fun a => kmap C (g a)
  | [] => rfl
  | a :: r => by
    have := kmap_flat C g r
    unfold kmap at *
    rw [List.flatMap_cons, List.map_append, this]; rfl
theorem flat_pre {α β : Type} (g : α → List β) (l : List α) (p : Nat) : ((l.take p).flatMap g).length ≤ (l.flatMap g).length := by
  have : l.flatMap g = (l.take p).flatMap g ++ (l.drop p).flatMap g := by rw [← List.flatMap_append, List.take_append_drop]
  rw [this, List.length_append]; omega
set_option maxHeartbeats 8000000 in
theorem ord_parts {m1 : Mem} {C : LogL} {S : List I2} (hl : S.length ≤ 100) (hS : S.Pairwise lt2) (hnd : S.Nodup) {u w : Value} {l : List (List Nat)} (hR : RdS 23 knE m1 u (kmap C S)) (hw : RdRows m1 w l)
    (hll : l.length ≤ 100) (hne : ∀ p ∈ l, p.Nodup ∧ ∀ x ∈ p, x < S.length) (hF : (l.flatMap (ordG C S)).length ≤ 100) {Rt : Value → Mem → Prop} {E : Env}
    (h5 : E.get 5 = u) (h5' : E.has 5 = true) (h13 : E.get 13 = .slice none 0 0) (h13' : E.has 13 = true) (h14 : E.get 14 = w) (h14' : E.has 14 = true)
    (hk : ∀ (v : Value) (M : Mem), Hq m1 M [] [ownA 52 23 v (kmap C (l.flatMap (ordG C S))).length ((kmap C (l.flatMap (ordG C S))).flatMap knE)] → Rt v M) :
    wpN Try.prog ordC3 (retP [RV.slot 4] Rt) E m1 := by
  obtain ⟨ua, uc, esv⟩ := hR.form
  subst esv
  rw [kmap_len] at h5
  obtain ⟨wa, wc, L, ew, hL, hwr, hwl⟩ := hw
  subst ew
  have hR0 : ∀ {M : Mem}, Fr m1 M [] → RdS 23 knE M (.slice ua S.length uc) (kmap C S) := fun f => by have := hR.frame f; rwa [kmap_len] at this
  unfold ordC3
  have H := (Hq.refl m1 []).nilRow 52 23
  simp (disch := omega) only [go_sem, undef, h5, h5', h13, h13', h14, h14']
  refine loopQ_intro (fun n E M => ∃ p O v, p ≤ l.length ∧ n = l.length - p ∧ E = [(5, .slice ua S.length uc), (13, v), (14, .slice wa l.length wc), (15, .int .i64 (p : Nat))] ∧ O = kmap C ((l.take p).flatMap (ordG C S)) ∧
    Hq m1 M [] [ownA 52 23 v O.length (O.flatMap knE)]) l.length rfl ⟨0, [], _, by omega, by omega, rfl, by simp [kmap], H⟩ ?_
  clear H
  rintro n E' M ⟨p, O, v, hp, rfl, rfl, hO, H⟩
  simp (disch := omega) only [go_sem, undef]
  refine condB_dec (fun hpl => ?_) (fun hpl => ?_)
  · have hpl : p < l.length := by omega
    have hpp : l[p]? = some l[p] := List.getElem?_eq_getElem hpl
    have hpm := List.getElem_mem hpl
    generalize hpart : l[p] = part at *
    obtain ⟨pa, pc', hLp, hpr⟩ := hwl p part hpp
    obtain ⟨wb, wo, ewa, hwc⟩ := hwr.at (i := p) (by omega)
    have hLp' : L[p]'(by omega) = .slice pa part.length pc' := (List.getElem?_eq_some_iff.1 hLp).2
    rw [hLp'] at hwc
    subst ewa
    have hwf : ∀ {M : Mem}, Fr m1 M [] → cellAt (M wb) (wo + p) = some (.slice pa part.length pc') := fun f => f.cellAt hwc (by simp)
    have hnx := hne part hpm
    have hO1 : O.length ≤ 100 := by
      rw [hO, kmap_len]; have := flat_pre (ordG C S) l p; omega
    have hO2 : O.length + part.length ≤ 100 := by
      have h2 := flat_pre (ordG C S) l (p + 1)
      rw [List.take_add_one, hpp, List.flatMap_append, List.length_append] at h2
      have h3 : ((some part).toList.flatMap (ordG C S)).length = part.length := by
        simp [ordG, (sortX_perm _ part).length_eq]
      rw [h3] at h2
      rw [hO, kmap_len]; omega
    have H := (H.nilRow 52 23).up 1 rfl
    simp (disch := omega) only [go_sem, undef]
    refine loopQ_intro (fun n E M => ∃ k x, k ≤ part.length ∧ n = part.length - k ∧ E = [(5, .slice ua S.length uc), (13, v), (14, .slice (some ⟨wb, wo, none⟩) l.length wc), (15, .int .i64 (p : Nat)), (16, x), (17, .int .i64 (k : Nat))] ∧
      Hq m1 M [] [ownA 52 23 v O.length (O.flatMap knE), ownA 52 23 x k (((part.take k).map fun v => kel C (nthI S v)).flatMap knE)]) part.length rfl ⟨0, _, by omega, by omega, rfl, H⟩ ?_
    clear H
    rintro n E' M ⟨k, x, hkp, rfl, rfl, H⟩
    have hwm := hwf H.fr
    simp (disch := omega) only [go_sem, undef, hwm]
    refine condB_dec (fun hkl => ?_) (fun hkl => ?_)
    · have hkl : k < part.length := by omega
      have hpk : part[k]? = some part[k] := List.getElem?_eq_getElem hkl
      have hkm := hnx.2 part[k] (List.getElem_mem hkl)
      obtain ⟨pb, po, epa, hpc⟩ := (hpr.frame H.fr).at (i := k) (by rw [show (nats part).length = part.length by simp [nats]]; exact hkl)
      have hnk : (nats part)[k]'(by simp [nats]; exact hkl) = .int .i64 (part[k] : Nat) := by simp [nats]
      rw [hnk] at hpc
      generalize part[k] = y at *
      subst epa
      have hy : S[y]? = some (nthI S y) := by unfold nthI; rw [List.getD_eq_getElem?_getD, List.getElem?_eq_getElem hkm]; rfl
      refine RdS.elN (hR0 H.fr) (by rw [kmap_len]) hkm (by decide) fun bx o q hq hix hE => ?_
      rw [kmap_get, hy] at hq
      have eq' : q = kel C (nthI S y) := (Option.some.inj hq).symm
      subst eq'
      simp (disch := omega) only [go_sem, undef, hwm, hpc, hix, hE.lda0]
      refine newQ H fun b11 M f H => ?_
      simp (disch := omega) only [go_sem, undef]
      refine appQ2 H rfl (news := knE (kel C (nthI S y))) (ldS_cell (n := 23) H.cs.1 (by rw [knE_len]; decide)) (knE_len _) (fun v hv => List.all_eq_true.1 (knE_oneP _) v hv) rfl (by omega) (by omega) fun x2 M f H => ?_
      simp (disch := omega) only [go_sem, undef]
      have hT : ((part.take k).map fun v => kel C (nthI S v)).flatMap knE ++ knE (kel C (nthI S y)) = ((part.take (k + 1)).map fun v => kel C (nthI S v)).flatMap knE := by
        rw [List.take_add_one, hpk]; simp
      rw [hT] at H
      exact handN_intro (part.length - (k + 1)) (by omega) ⟨k + 1, x2, by omega, by omega, rfl, dropQ0 H⟩
    · have ek : k = part.length := by omega
      subst ek
      rw [List.take_length] at H
      have hKn : ((part.map fun v => kel C (nthI S v)).map Prod.fst).Nodup := by
        rw [List.map_map]
        refine List.pairwise_map.2 (List.Pairwise.imp_of_mem (fun {a b} ha hb hab => ?_) hnx.1)
        intro e
        exact hab (nth_inj hnd (hnx.2 a ha) (hnx.2 b hb) e)
      have hKl : (part.map fun v => kel C (nthI S v)).length = part.length := by simp
      have hfin : ∀ Q : List Kn, Q.Pairwise belowP → Q.Perm (part.map fun v => kel C (nthI S v)) → O ++ Q = kmap C ((l.take (p + 1)).flatMap (ordG C S)) := fun Q h1 h2 => by
        rw [part_B hS hnx.1 hnx.2 h2 h1, List.take_add_one, hpp, List.flatMap_append, hO]
        simp [kmap]
      generalize (part.map fun v => kel C (nthI S v)) = K at *
      obtain ⟨N, hN⟩ : ∃ N, N = part.length := ⟨_, rfl⟩
      rw [← hN] at H hKl hO2
      clear hpr hwl hpart hpp hnx
      have H := H.up 1 rfl
      refine Own.formK (H.at 0 rfl) fun ka kc e => ?_
      subst e
      simp (disch := omega) only [go_sem, undef]
      refine loopQ_intro (fun z E m' => ∃ i P, 1 ≤ i ∧ z = N + 1 - i ∧ E = [(5, .slice ua S.length uc), (13, v), (14, .slice (some ⟨wb, wo, none⟩) l.length wc), (15, .int .i64 (p : Nat)), (16, .slice ka N kc), (18, .int .i64 (i : Nat))] ∧ (i ≤ N ∨ (i = 1 ∧ N = 0)) ∧ P.Pairwise belowP ∧ P.Perm (K.take i) ∧
        Hq m1 m' [] [ownA 52 23 (.slice ka N kc) N ((P ++ K.drop i).flatMap knE), ownA 52 23 v O.length (O.flatMap knE)]) N rfl ⟨1, K.take 1, by omega, by omega, rfl, by omega, by
          match K with
          | [] => exact .nil
          | a :: r => simp, List.Perm.refl _, by rw [List.take_append_drop]; exact H⟩ ?_
      clear H
      rintro z E M ⟨i, P, hi1, rfl, rfl, hiN, hsP, hpP, H⟩
      simp (disch := omega) only [go_sem, undef]
      refine condB_dec (fun hlt => ?_) (fun hlt => ?_)
      · have hlt : i < N := by omega
        obtain ⟨x, hx⟩ : ∃ x, K[i]? = some x := ⟨_, List.getElem?_eq_getElem (by omega)⟩
        have hI := Ins.start hsP hpP hx
        have hdr : K.drop i = x :: K.drop (i + 1) := by
          rw [List.drop_eq_getElem_cons (by omega)]
          have := (List.getElem?_eq_some_iff.1 hx).2
          rw [this]
        have hL : P ++ K.drop i = insL K i P [] x := by rw [hdr]; rfl
        rw [hL] at H
        simp (disch := omega) only [go_sem, undef]
        refine loopQ_intro (fun z E m' => ∃ k P Q, z = k ∧ E = [(5, .slice ua S.length uc), (13, v), (14, .slice (some ⟨wb, wo, none⟩) l.length wc), (15, .int .i64 (p : Nat)), (16, .slice ka N kc), (18, .int .i64 (i : Nat)), (19, .int .i64 (k : Nat))] ∧ Ins belowP K i k P Q x ∧
          Hq m1 m' [] [ownA 52 23 (.slice ka N kc) N ((insL K i P Q x).flatMap knE), ownA 52 23 v O.length (O.flatMap knE)]) i rfl ⟨i, P, [], rfl, rfl, hI, H⟩ ?_
        clear H hI hL hsP hpP
        rintro k E M ⟨_, P, Q, rfl, rfl, hI, H⟩
        have hlenL := hI.lenQ
        rw [hKl] at hlenL
        have hRd : ∀ {M : Mem} {c : Option Addr} {T : List Kn}, T.length = N → Own M 52 23 (.slice c N kc) N (T.flatMap knE) → RdS 23 knE M (.slice c N kc) T := fun e h => Own.rdsN (by decide) knE_len e h
        rcases List.eq_nil_or_concat P with rfl | ⟨P0, y, rfl⟩
        · have hk0 : k = 0 := by have := hI.len; simpa using this.symm
          subst hk0
          have hst := hI.stop ord_B hKn (by simp)
          rw [Ins.next] at H
          simp (disch := omega) only [go_sem, undef, dec_f (show ¬ (0 : Int) < ((0 : Nat) : Int) by decide)]
          exact handN_intro (N + 1 - (i + 1)) (by omega) ⟨i + 1, [] ++ x :: Q, by omega, by omega, rfl, by omega, hst.1, hst.2, H⟩
        · rw [List.concat_eq_append] at *
          have hkl : k = P0.length + 1 := by have := hI.len; simp at this; omega
          subst hkl
          obtain ⟨gx, gy, gs⟩ := ins_at (O := K) (P := P0) (Q := Q) (i := i) (x := x) (y := y)
          have hpN : P0.length + 1 < N := by
            have := (List.getElem?_eq_some_iff.1 gx).1; omega
          have hk1 : ((P0.length + 1 : Nat) : Int) - 1 = (P0.length : Nat) := by omega
          refine Own.rowK (H.at 0 rfl) (by omega) fun ub ucap tail ea _ _ => ?_
          cases ea
          have hE := (hRd hlenL (H.at 0 rfl)).elO hlenL gx (by decide)
          have hE' := (hRd hlenL (H.at 0 rfl)).elO hlenL gy (by decide)
          simp (disch := omega) only [go_sem, undef, dec_t (show (0 : Int) < ((P0.length + 1 : Nat) : Int) by omega), hk1, hE.lda0, hE'.lda0]
          refine callQ H (ref19_below_s x y _) fun M f H => ?_
          have hE := hE.frame f
          have hE' := hE'.frame f
          by_cases hxy : belowP x y
          · simp (disch := omega) only [go_sem, undef, dec_t hxy, hk1, hE.lda0, hE'.lda0]
            refine stRow H hlenL hpN fun M f H => ?_
            simp (disch := omega) only [go_sem, undef, hk1]
            refine stRow H (by rw [List.length_set]; exact hlenL) (by omega) fun M f H => ?_
            rw [gs] at H
            simp (disch := omega) only [go_sem, undef, hk1]
            exact handN_intro P0.length (by omega) ⟨P0.length, P0, y :: Q, rfl, rfl, hI.swap hxy, H⟩
          · have hst := hI.stop ord_B hKn (by simpa using hxy)
            rw [Ins.next] at H
            simp (disch := omega) only [go_sem, undef, dec_f hxy]
            exact handN_intro (N + 1 - (i + 1)) (by omega) ⟨i + 1, (P0 ++ [y]) ++ x :: Q, by omega, by omega, rfl, by omega, hst.1, hst.2, H⟩
      · have hd : K.drop i = [] := List.drop_eq_nil_iff.2 (by omega)
        have ht : K.take i = K := List.take_of_length_le (by omega)
        rw [hd, List.append_nil] at H
        rw [ht] at hpP
        have hPl : P.length = N := by rw [hpP.length_eq, hKl]
        have hld : ∀ {M : Mem}, Own M 52 23 (.slice ka N kc) N (P.flatMap knE) → ldS M ka (N * 23) = some (P.flatMap knE) := fun h => by
          have := ldS_of (Own.rdsN (enc := knE) (by decide) knE_len hPl h |> fun h => by rw [← hPl] at h; exact h)
          rwa [hPl] at this
        simp (disch := omega) only [go_sem, undef]
        refine appQ1 H rfl (news := P.flatMap knE) (hld (H.at 0 rfl)) (by rw [fm_len knE_len, hPl]) (fun v hv => ?_) rfl (by omega) (by omega) fun v2 M f H => ?_
        · obtain ⟨p, _, hv⟩ := List.mem_flatMap.1 hv
          exact List.all_eq_true.1 (knE_oneP p) v hv
        have hLL : O.length + N = (O ++ P).length ∧ O.flatMap knE ++ P.flatMap knE = (O ++ P).flatMap knE := by rw [List.length_append, hPl, List.flatMap_append]; exact ⟨rfl, rfl⟩
        rw [hLL.1, hLL.2] at H
        simp (disch := omega) only [go_sem, undef]
        exact handN_intro (l.length - (p + 1)) (by omega) ⟨p + 1, O ++ P, v2, by omega, by omega, rfl, hfin P hsP hpP, H.drop 0⟩
  · have ep : p = l.length := by omega
    subst ep
    rw [List.take_length] at hO
    subst hO
    simp (disch := omega) only [go_sem, undef]
    exact hk _ _ H
end Go.Fw

set_option linter.unusedSimpArgs false
set_option linter.unusedVariables false
namespace Go.Fw
open Go.Proofs
set_option maxHeartbeats 8000000 in
theorem ref19_order_s {m : Mem} {C : LogL} {row : List I2} {sv : Value} (d : Dp) (hR : RdS 23 knE m sv (kmap C row)) (hl : row.length ≤ 100) (hnd : row.Nodup) (hlow : ∀ i ∈ row, (0 ≤ i.1 ∧ i.1 < 7) ∧ 1 ≤ i.2 ∧ i.2 ≤ 1000) :
    CN Try.prog n_ref19_order [d.v, sv] m fun v A => A = ownA 52 23 v (kmap C (orderL C row)).length ((kmap C (orderL C row)).flatMap knE) := by
  refine ord_sort1 hR (by rw [kmap_len]; exact hl) (by rw [kmap_fst]; exact hnd) fun E u S M h5 h5' hS hp H => ?_
  have hSk := kmap_of hp
  have hp0 : (S.map Prod.fst).Perm row := by have := hp.map Prod.fst; rwa [kmap_fst] at this
  have hS0 : (S.map Prod.fst).Pairwise lt2 := List.pairwise_map.2 hS
  have hsi := asc_sortR hp0 hnd hS0
  generalize S.map Prod.fst = S0 at *
  subst hSk
  rw [kmap_len] at H
  have hnd0 : S0.Nodup := hp0.nodup_iff.2 hnd
  have hlow0 : ∀ i ∈ S0, (0 ≤ i.1 ∧ i.1 < 7) ∧ 1 ≤ i.2 ∧ i.2 ≤ 1000 := fun i hi => hlow i (hp0.mem_iff.1 hi)
  have hl0 : S0.length ≤ 100 := by rw [hp0.length_eq]; exact hl
  refine ord_edges hl0 hlow0 H h5 h5' fun E b f M h5 h5' h8 h8' H => ?_
  unfold ordC2
  generalize hC3 : ordC3 = C3
  have hg : GRd M S0.length (.slice (some ⟨b, 0, none⟩) S0.length S0.length) (edgesR C S0) := by
    have h1 := rows_grd (H.at 0 rfl : Rows M b S0.length f (xsG (eR C S0) S0.length S0.length 0)) (fun p hp => by
      simp only [xsG, if_pos hp]
      have := List.length_filter_le (eR C S0 p) (List.range S0.length)
      rw [List.length_range] at this; omega)
    refine h1.congr fun v hv => ?_
    simp only [xsG, if_pos hv]; rfl
  simp (disch := omega) only [go_sem, undef, h5, h5', h8, h8']
  refine call_with (refparts_spec M S0.length _ (edgesR C S0) (by omega) hg) fun w M2 ⟨l, hO, hw, f2⟩ => ?_
  have hpl := parts_R hlow0 hO
  have hord : l.flatMap (ordG C S0) = orderL C row := by
    unfold orderL
    rw [← hsi, hpl]
  have hlen := hO.len
  have hne := hO.ne
  have H := H.keep f2
  have hfr : Fr m M2 [] := H.fr
  simp (disch := omega) only [go_sem, undef, h5, h5']
  subst hC3
  refine ord_parts (u := u) (w := w) (l := l) hl0 hS0 hnd0 (Own.rdsN (by decide) knE_len (kmap_len _ _) (H.at 1 rfl) |> fun h => h) hw (by omega) (fun p hp => ⟨(hne p hp).2.1.imp (fun h => by omega), (hne p hp).2.2⟩) (by rw [hord, (orderL_perm C row).length_eq]; exact hl) rfl rfl rfl rfl rfl rfl fun v M3 H3 => ?_
  rw [hord] at H3
  refine ⟨_, rfl, H3.at 0 rfl, hfr.trans0 H3.fr, fun x hx => ?_⟩
  have hx2 := (H3.nw _ (List.mem_cons_self ..) x hx).resolve_right (by simp)
  cases hmx : m x with
  | none => rfl
  | some o => rw [hfr.get0 hmx] at hx2; cases hx2
end Go.Fw

set_option linter.unusedSimpArgs false
set_option linter.unusedVariables false
namespace Go.Fw
open Go.Proofs
theorem prs_one (l : List I2) : ∀ v ∈ prs l, v.oneCell' = true := fun v hv => by
  obtain ⟨p, _, hv⟩ := List.mem_flatMap.1 hv
  exact List.all_eq_true.1 (pc_one p) v hv
theorem ldS_tk {m : Mem} {a : Option Addr} {c n : Nat} {l : List I2} (h : RdS 2 pc m (.slice a n c) l) (e : l.length = n) : ldS m a (n * 2) = some (prs l) := by subst e; exact ldS_of h
theorem asc_ins {out : List I2} (h : Asc out) (x : I2) {i : Nat} (hi : i ≤ out.length) (hb : ∀ p (hp : p < i), lt2 (out[p]'(by omega)) x) (ha : ∀ hp : i < out.length, ¬ lt2 out[i] x ∧ out[i] ≠ x) : Asc (out.take i ++ x :: out.drop i) := by
  have h1 : ∀ y ∈ out.take i, lt2 y x := fun y hy => by
    obtain ⟨p, hp, rfl⟩ := List.getElem_of_mem hy
    rw [List.length_take] at hp
    rw [List.getElem_take]
    exact hb p (by omega)
  have h2 : ∀ y ∈ out.drop i, lt2 x y := fun y hy => by
    obtain ⟨p, hp, rfl⟩ := List.getElem_of_mem hy
    rw [List.length_drop] at hp
    rw [List.getElem_drop]
    have hx := ha (by omega)
    have hxi : lt2 x out[i] := (lt2_tot _ _ hx.2).resolve_left hx.1
    by_cases e : p = 0
    · subst e; exact hxi
    · exact lt2_tr _ _ _ hxi (List.pairwise_iff_getElem.1 h i (i + p) (by omega) (by omega) (by omega))
  refine List.pairwise_append.2 ⟨h.sublist (List.take_sublist ..), List.pairwise_cons.2 ⟨h2, h.sublist (List.drop_sublist ..)⟩, fun y hy z hz => ?_⟩
  rcases List.mem_cons.1 hz with e | hz
  · rw [e]; exact h1 y hy
  · exact lt2_tr _ _ _ (h1 y hy) (h2 z hz)
set_option maxHeartbeats 8000000 in
theorem ref19_unique_s {m : Mem} {l : List I2} {sv : Value} (hR : RdS 2 pc m sv l) (hl : l.length ≤ 1000) :
    CN Try.prog n_ref19_unique [sv] m fun v A => ∃ out : List I2, Asc out ∧ (∀ y, y ∈ out ↔ y ∈ l) ∧ A = ownA 23 2 v out.length (prs out) := by
  obtain ⟨sa, sc, esv⟩ := hR.form
  subst esv
  refine ref19_unique_go (by simp [Try.f33]) ?_
  have H := (Hq.refl m []).nilRow 23 2
  simp (disch := omega) only [go_sem, undef]
  refine loopQ_intro (fun z E m' => ∃ j out u, j ≤ l.length ∧ z = l.length - j ∧ E = [(0, .slice sa l.length sc), (3, u), (4, .int .i64 (j : Nat))] ∧ Asc out ∧ (∀ y, y ∈ out ↔ y ∈ l.take j) ∧ out.length ≤ j ∧
    Hq m m' [] [ownA 23 2 u out.length (prs out)]) l.length rfl ⟨0, [], .slice none 0 0, by omega, by omega, rfl, .nil, by simp, by simp, H⟩ ?_
  clear H
  rintro z E m' ⟨j, out, u, hj, rfl, rfl, hasc, hmem, hol, H⟩
  refine Own.formK (H.at 0 rfl) fun ua uc ea => ?_
  subst ea
  simp (disch := omega) only [go_sem, undef]
  refine condB_dec (fun hlt => ?_) (fun hlt => ?_)
  · have hlt : j < l.length := by omega
    refine RdS.elK (hR.frame H.fr) hlt (by decide) fun bx' o' x hx hix' hE' => ?_
    have hout : ∀ {M : Mem}, Own M 23 2 (.slice ua out.length uc) out.length (prs out) → RdS 2 pc M (.slice ua out.length uc) out := fun h => Own.rds (by decide) pc_len h
    have hmt : ∀ y, y ∈ l.take (j + 1) ↔ y ∈ l.take j ∨ y = x := fun y => by rw [List.take_add_one, hx]; simp
    simp (disch := omega) only [go_sem, undef]
    refine loopQ_intro (fun z E M => ∃ i, i ≤ out.length ∧ z = out.length - i ∧ E = [(0, .slice sa l.length sc), (3, .slice ua out.length uc), (4, .int .i64 (j : Nat)), (5, .int .i64 (i : Nat))] ∧ (∀ p (hp : p < i) (hp2 : p < out.length), lt2 out[p] x) ∧
      Hq m M [] [ownA 23 2 (.slice ua out.length uc) out.length (prs out)] ∧ Fr m' M []) out.length rfl ⟨0, by omega, by omega, rfl, by omega, H, Fr.refl _ _⟩ ?_
    clear H
    rintro z E M1 ⟨i, hi, rfl, rfl, hlo, H, fM⟩
    have hE' := hE'.frame fM
    by_cases hil' : i < out.length
    · have hil2 : (i : Int) < (out.length : Nat) := by omega
      refine RdS.elK (hout (H.at 0 rfl)) hil' (by decide) fun bx o y hy hix hE => ?_
      have hyi : out[i] = y := (List.getElem?_eq_some_iff.1 hy).2
      simp (disch := omega) only [go_sem, undef, dec_t hil2, hix, hE.lda0, hix', hE'.lda0, pc_take]
      refine callQ H (ref1_Less_s y x _) fun M9 f H => ?_
      by_cases hlt2 : lt2 y x
      · simp (disch := omega) only [go_sem, undef, dec_t hlt2]
        exact handN_intro (out.length - (i + 1)) (by omega) ⟨i + 1, by omega, rfl, rfl, fun p hp hp2 => by
          by_cases e : p = i
          · subst e; rw [hyi]; exact hlt2
          · exact hlo p (by omega) hp2, H, fM.trans0 f⟩
      · have hE := hE.frame f
        have hE' := hE'.frame f
        by_cases hxy : y = x
        · have hin : x ∈ out := hxy ▸ List.mem_of_getElem? hy
          simp (disch := omega) only [go_sem, undef, dec_f hlt2, dec_f (show ¬ (i : Int) = (out.length : Nat) by omega), hix, hE.lda0, hix', hE'.lda0, pc_take, dec_t hxy]
          exact handN_intro (l.length - (j + 1)) (by omega) ⟨j + 1, out, _, by omega, rfl, rfl, hasc, fun y => by
            rw [hmt, ← hmem]
            exact ⟨.inl, fun h => h.elim id fun e => e ▸ hin⟩, by omega, H⟩
        · have hafter : ∀ hp : i < out.length, ¬ lt2 out[i] x ∧ out[i] ≠ x := fun hp => by rw [hyi]; exact ⟨hlt2, hxy⟩
          obtain ⟨da, dc, ecut, hD, _⟩ := RdS.cut (by decide) (hout (H.at 0 rfl)) i out.length hi (Nat.le_refl _)
          have hT := (hout (H.at 0 rfl)).takeN rfl (j := i) hi
          have hcap := (hout (H.at 0 rfl)).cap rfl
          rw [List.take_length] at hD
          have hil : (out.take i).length = i := by simp; omega
          have hdl : (out.drop i).length = out.length - i := by simp
          have hlT : (prs (out.take i)).length = i * 2 := by rw [prs_len, hil]
          have hlD : (prs (out.drop i)).length = (out.length - i) * 2 := by rw [prs_len, hdl]
          obtain ⟨X3, hX3⟩ : ∃ X3, X3 = [] ++ prs (out.take i) ++ pc x ++ prs (out.drop i) := ⟨_, rfl⟩
          obtain ⟨n3, hN3⟩ : ∃ n3, n3 = 0 + i + 1 + (out.length - i) := ⟨_, rfl⟩
          have H1 := Hq.refl M9 []
          have hE' : El 2 pc M9 bx' o' x := hE'
          simp (disch := omega) only [go_sem, undef, dec_f hlt2, dec_f (show ¬ (i : Int) = (out.length : Nat) by omega), hix, hE.lda0, dec_f hxy, hix', hE'.lda0, pc_take, ecut]
          refine both_cut (J := fun E N => ∃ u, E = [(0, .slice sa l.length sc), (3, u), (4, .int .i64 (j : Nat))] ∧ Fr M9 N [] ∧ Own N 23 2 u n3 X3 ∧ ∀ b ∈ blkOf u, M9 b = none) ?_ ?_
          · rintro E N ⟨u, rfl, f, ho, hb⟩
            have H := H.add (A := ownA 23 2 u n3 X3) ho f hb
            have hL : n3 = (out.take i ++ x :: out.drop i).length ∧ X3 = prs (out.take i ++ x :: out.drop i) := by
              refine ⟨by rw [hN3]; simp; omega, by rw [hX3]; simp [prs]⟩
            rw [hL.1, hL.2] at H
            have hlen2 : (out.take i ++ x :: out.drop i).length ≤ j + 1 := by simp; omega
            simp (disch := omega) only [go_sem, undef]
            exact handN_intro (l.length - (j + 1)) (by omega) ⟨j + 1, _, u, by omega, rfl, rfl, asc_ins hasc x hi (fun p hp => hlo p hp (by omega)) hafter, fun y => by
              rw [hmt, ← hmem]
              simp only [List.mem_append, List.mem_cons]
              constructor
              · rintro (h | h | h)
                · exact .inl (List.mem_of_mem_take h)
                · exact .inr h
                · exact .inl (List.mem_of_mem_drop h)
              · rintro (h | h)
                · rw [← List.take_append_drop i out] at h
                  rcases List.mem_append.1 h with h | h
                  · exact .inl h
                  · exact .inr (.inr h)
                · exact .inr (.inl h), hlen2, H.drop 1⟩
          · simp (disch := omega) only [go_sem, undef]
            refine both_intro ?_ ?_
            · simp (disch := omega) only [go_sem, undef]
              refine newQ H1 fun b0 N f0 H1 => ?_
              have H1 := H1.toRow 2 0 0 rfl (by omega)
              have hx9 := hE'.frame H1.fr
              simp (disch := omega) only [go_sem, undef, hx9.lda0, pc_take]
              refine both_intro ?_ ?_
              · simp (disch := omega) only [go_sem, undef]
                refine appQ0 H1 rfl (news := prs (out.take i)) (ldS_tk (hT.frame H1.fr) hil) hlT (fun v hv => prs_one _ v hv) rfl (by omega) (by omega) fun u1 N f0 H1 => ?_
                have hx9 := hE'.frame H1.fr
                simp (disch := omega) only [go_sem, undef, hx9.lda0, pc_take]
                refine newQ H1 fun b9 N f0 H1 => ?_
                have hx9 := hE'.frame H1.fr
                simp (disch := omega) only [go_sem, undef, hx9.lda0, pc_take]
                refine appQ1 H1 rfl (news := pc x) (ldS_cell H1.cs.1 (by rw [pc_len]; decide)) (pc_len _) (fun v hv => List.all_eq_true.1 (pc_one _) v hv) rfl (by omega) (by omega) fun u2 N f0 H1 => ?_
                have hx9 := hE'.frame H1.fr
                simp (disch := omega) only [go_sem, undef, hx9.lda0, pc_take]
                refine appQ1 H1 rfl (news := prs (out.drop i)) (ldS_tk (hD.frame H1.fr) hdl) hlD (fun v hv => prs_one _ v hv) rfl (by omega) (by omega) fun u3 N f0 H1 => ?_
                simp (disch := omega) only [go_sem, undef]
                exact ⟨u3, rfl, H1.fr, by rw [hX3, hN3]; exact H1.at 1 rfl, fun b hb => (H1.nw _ (List.mem_of_getElem? (i := 1) rfl) b hb).resolve_right (by simp)⟩
              · simp (disch := omega) only [go_sem, undef]
                refine newQ H1 fun b9 N f0 H1 => ?_
                have hx9 := hE'.frame H1.fr
                simp (disch := omega) only [go_sem, undef, hx9.lda0, pc_take]
                refine appQ1 H1 rfl (news := prs (out.take i)) (ldS_tk (hT.frame H1.fr) hil) hlT (fun v hv => prs_one _ v hv) rfl (by omega) (by omega) fun u1 N f0 H1 => ?_
                have hx9 := hE'.frame H1.fr
                simp (disch := omega) only [go_sem, undef, hx9.lda0, pc_take]
                refine appQ1 H1 rfl (news := pc x) (ldS_cell H1.cs.1 (by rw [pc_len]; decide)) (pc_len _) (fun v hv => List.all_eq_true.1 (pc_one _) v hv) rfl (by omega) (by omega) fun u2 N f0 H1 => ?_
                have hx9 := hE'.frame H1.fr
                simp (disch := omega) only [go_sem, undef, hx9.lda0, pc_take]
                refine appQ1 H1 rfl (news := prs (out.drop i)) (ldS_tk (hD.frame H1.fr) hdl) hlD (fun v hv => prs_one _ v hv) rfl (by omega) (by omega) fun u3 N f0 H1 => ?_
                simp (disch := omega) only [go_sem, undef]
                exact ⟨u3, rfl, H1.fr, by rw [hX3, hN3]; exact H1.at 1 rfl, fun b hb => (H1.nw _ (List.mem_of_getElem? (i := 1) rfl) b hb).resolve_right (by simp)⟩
            · simp (disch := omega) only [go_sem, undef]
              refine newQ H1 fun b9 N f0 H1 => ?_
              have hx9 := hE'.frame H1.fr
              simp (disch := omega) only [go_sem, undef, hx9.lda0, pc_take]
              refine newQ H1 fun b0 N f0 H1 => ?_
              have H1 := H1.toRow 2 0 0 rfl (by omega)
              have hx9 := hE'.frame H1.fr
              simp (disch := omega) only [go_sem, undef, hx9.lda0, pc_take]
              refine appQ0 H1 rfl (news := prs (out.take i)) (ldS_tk (hT.frame H1.fr) hil) hlT (fun v hv => prs_one _ v hv) rfl (by omega) (by omega) fun u1 N f0 H1 => ?_
              have hx9 := hE'.frame H1.fr
              simp (disch := omega) only [go_sem, undef, hx9.lda0, pc_take]
              refine appQ0 H1 rfl (news := pc x) (ldS_cell H1.cs.1 (by rw [pc_len]; decide)) (pc_len _) (fun v hv => List.all_eq_true.1 (pc_one _) v hv) rfl (by omega) (by omega) fun u2 N f0 H1 => ?_
              have hx9 := hE'.frame H1.fr
              simp (disch := omega) only [go_sem, undef, hx9.lda0, pc_take]
              refine appQ0 H1 rfl (news := prs (out.drop i)) (ldS_tk (hD.frame H1.fr) hdl) hlD (fun v hv => prs_one _ v hv) rfl (by omega) (by omega) fun u3 N f0 H1 => ?_
              simp (disch := omega) only [go_sem, undef]
              exact ⟨u3, rfl, H1.fr, by rw [hX3, hN3]; exact H1.at 0 rfl, fun b hb => (H1.nw _ (List.mem_of_getElem? (i := 0) rfl) b hb).resolve_right (by simp)⟩
    · have ei : i = out.length := by omega
      have hafter : ∀ hp : i < out.length, ¬ lt2 out[i] x ∧ out[i] ≠ x := fun hp => absurd hp hil'
      obtain ⟨da, dc, ecut, hD, _⟩ := RdS.cut (by decide) (hout (H.at 0 rfl)) i out.length hi (Nat.le_refl _)
      have hT := (hout (H.at 0 rfl)).takeN rfl (j := i) hi
      have hcap := (hout (H.at 0 rfl)).cap rfl
      rw [List.take_length] at hD
      have hil : (out.take i).length = i := by simp; omega
      have hdl : (out.drop i).length = out.length - i := by simp
      have hlT : (prs (out.take i)).length = i * 2 := by rw [prs_len, hil]
      have hlD : (prs (out.drop i)).length = (out.length - i) * 2 := by rw [prs_len, hdl]
      obtain ⟨X3, hX3⟩ : ∃ X3, X3 = [] ++ prs (out.take i) ++ pc x ++ prs (out.drop i) := ⟨_, rfl⟩
      obtain ⟨n3, hN3⟩ : ∃ n3, n3 = 0 + i + 1 + (out.length - i) := ⟨_, rfl⟩
      have H1 := Hq.refl M1 []
      have hE' : El 2 pc M1 bx' o' x := hE'
      simp (disch := omega) only [go_sem, undef, dec_f (show ¬ (i : Int) < (out.length : Nat) by omega), dec_t (show (i : Int) = (out.length : Nat) by omega), hix', hE'.lda0, pc_take, ecut]
      refine both_cut (J := fun E N => ∃ u, E = [(0, .slice sa l.length sc), (3, u), (4, .int .i64 (j : Nat))] ∧ Fr M1 N [] ∧ Own N 23 2 u n3 X3 ∧ ∀ b ∈ blkOf u, M1 b = none) ?_ ?_
      · rintro E N ⟨u, rfl, f, ho, hb⟩
        have H := H.add (A := ownA 23 2 u n3 X3) ho f hb
        have hL : n3 = (out.take i ++ x :: out.drop i).length ∧ X3 = prs (out.take i ++ x :: out.drop i) := by
          refine ⟨by rw [hN3]; simp; omega, by rw [hX3]; simp [prs]⟩
        rw [hL.1, hL.2] at H
        have hlen2 : (out.take i ++ x :: out.drop i).length ≤ j + 1 := by simp; omega
        simp (disch := omega) only [go_sem, undef]
        exact handN_intro (l.length - (j + 1)) (by omega) ⟨j + 1, _, u, by omega, rfl, rfl, asc_ins hasc x hi (fun p hp => hlo p hp (by omega)) hafter, fun y => by
          rw [hmt, ← hmem]
          simp only [List.mem_append, List.mem_cons]
          constructor
          · rintro (h | h | h)
            · exact .inl (List.mem_of_mem_take h)
            · exact .inr h
            · exact .inl (List.mem_of_mem_drop h)
          · rintro (h | h)
            · rw [← List.take_append_drop i out] at h
              rcases List.mem_append.1 h with h | h
              · exact .inl h
              · exact .inr (.inr h)
            · exact .inr (.inl h), hlen2, H.drop 1⟩
      · simp (disch := omega) only [go_sem, undef]
        refine both_intro ?_ ?_
        · simp (disch := omega) only [go_sem, undef]
          refine newQ H1 fun b0 N f0 H1 => ?_
          have H1 := H1.toRow 2 0 0 rfl (by omega)
          have hx9 := hE'.frame H1.fr
          simp (disch := omega) only [go_sem, undef, hx9.lda0, pc_take]
          refine both_intro ?_ ?_
          · simp (disch := omega) only [go_sem, undef]
            refine appQ0 H1 rfl (news := prs (out.take i)) (ldS_tk (hT.frame H1.fr) hil) hlT (fun v hv => prs_one _ v hv) rfl (by omega) (by omega) fun u1 N f0 H1 => ?_
            have hx9 := hE'.frame H1.fr
            simp (disch := omega) only [go_sem, undef, hx9.lda0, pc_take]
            refine newQ H1 fun b9 N f0 H1 => ?_
            have hx9 := hE'.frame H1.fr
            simp (disch := omega) only [go_sem, undef, hx9.lda0, pc_take]
            refine appQ1 H1 rfl (news := pc x) (ldS_cell H1.cs.1 (by rw [pc_len]; decide)) (pc_len _) (fun v hv => List.all_eq_true.1 (pc_one _) v hv) rfl (by omega) (by omega) fun u2 N f0 H1 => ?_
            have hx9 := hE'.frame H1.fr
            simp (disch := omega) only [go_sem, undef, hx9.lda0, pc_take]
            refine appQ1 H1 rfl (news := prs (out.drop i)) (ldS_tk (hD.frame H1.fr) hdl) hlD (fun v hv => prs_one _ v hv) rfl (by omega) (by omega) fun u3 N f0 H1 => ?_
            simp (disch := omega) only [go_sem, undef]
            exact ⟨u3, rfl, H1.fr, by rw [hX3, hN3]; exact H1.at 1 rfl, fun b hb => (H1.nw _ (List.mem_of_getElem? (i := 1) rfl) b hb).resolve_right (by simp)⟩
          · simp (disch := omega) only [go_sem, undef]
            refine newQ H1 fun b9 N f0 H1 => ?_
            have hx9 := hE'.frame H1.fr
            simp (disch := omega) only [go_sem, undef, hx9.lda0, pc_take]
            refine appQ1 H1 rfl (news := prs (out.take i)) (ldS_tk (hT.frame H1.fr) hil) hlT (fun v hv => prs_one _ v hv) rfl (by omega) (by omega) fun u1 N f0 H1 => ?_
            have hx9 := hE'.frame H1.fr
            simp (disch := omega) only [go_sem, undef, hx9.lda0, pc_take]
            refine appQ1 H1 rfl (news := pc x) (ldS_cell H1.cs.1 (by rw [pc_len]; decide)) (pc_len _) (fun v hv => List.all_eq_true.1 (pc_one _) v hv) rfl (by omega) (by omega) fun u2 N f0 H1 => ?_
            have hx9 := hE'.frame H1.fr
            simp (disch := omega) only [go_sem, undef, hx9.lda0, pc_take]
            refine appQ1 H1 rfl (news := prs (out.drop i)) (ldS_tk (hD.frame H1.fr) hdl) hlD (fun v hv => prs_one _ v hv) rfl (by omega) (by omega) fun u3 N f0 H1 => ?_
            simp (disch := omega) only [go_sem, undef]
            exact ⟨u3, rfl, H1.fr, by rw [hX3, hN3]; exact H1.at 1 rfl, fun b hb => (H1.nw _ (List.mem_of_getElem? (i := 1) rfl) b hb).resolve_right (by simp)⟩
        · simp (disch := omega) only [go_sem, undef]
          refine newQ H1 fun b9 N f0 H1 => ?_
          have hx9 := hE'.frame H1.fr
          simp (disch := omega) only [go_sem, undef, hx9.lda0, pc_take]
          refine newQ H1 fun b0 N f0 H1 => ?_
          have H1 := H1.toRow 2 0 0 rfl (by omega)
          have hx9 := hE'.frame H1.fr
          simp (disch := omega) only [go_sem, undef, hx9.lda0, pc_take]
          refine appQ0 H1 rfl (news := prs (out.take i)) (ldS_tk (hT.frame H1.fr) hil) hlT (fun v hv => prs_one _ v hv) rfl (by omega) (by omega) fun u1 N f0 H1 => ?_
          have hx9 := hE'.frame H1.fr
          simp (disch := omega) only [go_sem, undef, hx9.lda0, pc_take]
          refine appQ0 H1 rfl (news := pc x) (ldS_cell H1.cs.1 (by rw [pc_len]; decide)) (pc_len _) (fun v hv => List.all_eq_true.1 (pc_one _) v hv) rfl (by omega) (by omega) fun u2 N f0 H1 => ?_
          have hx9 := hE'.frame H1.fr
          simp (disch := omega) only [go_sem, undef, hx9.lda0, pc_take]
          refine appQ0 H1 rfl (news := prs (out.drop i)) (ldS_tk (hD.frame H1.fr) hdl) hlD (fun v hv => prs_one _ v hv) rfl (by omega) (by omega) fun u3 N f0 H1 => ?_
          simp (disch := omega) only [go_sem, undef]
          exact ⟨u3, rfl, H1.fr, by rw [hX3, hN3]; exact H1.at 0 rfl, fun b hb => (H1.nw _ (List.mem_of_getElem? (i := 0) rfl) b hb).resolve_right (by simp)⟩
  · have e : j = l.length := by omega
    subst e
    rw [List.take_length] at hmem
    simp (disch := omega) only [go_sem, undef]
    exact ⟨_, ⟨out, hasc, hmem, rfl⟩, H.at 0 rfl, H.fr, fun b hb => (H.nw _ (List.mem_cons_self ..) b hb).resolve_right (by simp)⟩
end Go.Fw

set_option linter.unusedSimpArgs false
set_option linter.unusedVariables false
namespace Go.Fw
open Go.Proofs
theorem cel_gd (c : Cel) (r : Nat) (h : r < 7) : c.cs[13 + r]? = some (.int .i64 (c.att.deps.g r)) := by
  match r, h with
  | 0, _ | 1, _ | 2, _ | 3, _ | 4, _ | 5, _ | 6, _ => rfl
theorem kmap_snoc (C : LogL) (l : List I2) (x : I2) : (kmap C l).flatMap knE ++ knE (x, (lkC x C).getD Cel.zero) = (kmap C (l ++ [x])).flatMap knE := by simp [kmap]
set_option maxHeartbeats 8000000 in
theorem ref19_closure_s {m : Mem} {R : List Kn} {sv : Value} (hR : RdS 23 knE m sv R) (hl : R.length ≤ 40) (hlow : ∀ p ∈ R, LowK p) {done : Dp} (hd : ∀ r, r < 7 → 0 ≤ done.g r ∧ done.g r ≤ 1000) (root : I2) (hr : lkC root (plC R) ≠ none) :
    CN Try.prog n_ref19_closure [done.v, sv, pv root] m fun v A => match hangs (plC R) done root with
      | .inl row => ∃ u, v = .tuple #[u, .slice none 0 0] ∧ A = ownA 52 23 u row.length ((kmap (plC R) row).flatMap knE)
      | .inr k => ∃ w, v = .tuple #[.slice none 0 0, w] ∧ A = ownA 23 2 w 1 (prs [k]) := by
  have hget := fun {M : Mem} (f : Fr m M []) k => ref19_get_s (hR.frame f) (by omega) k
  have hC := Nat.le_trans (plC_PC R).len hl
  have hLo := plC_low hlow
  generalize plC R = C at *
  generalize hT : hangs C done root = tgt
  obtain ⟨sa, sc, esv⟩ := hR.form
  subst esv
  refine ref19_closure_go (by simp [Try.f33]) ?_
  have H := Hq.refl m []
  simp (disch := omega) only [go_sem, undef]
  refine newQ H fun b3 M f H => ?_
  simp (disch := omega) only [go_sem, undef]
  refine newQ H fun b5 M f H => ?_
  have H := H.nilRow 52 23
  simp (disch := omega) only [go_sem, undef, H.cs, pc_take]
  refine newQ H fun b9 M f H => ?_
  simp (disch := omega) only [go_sem, undef]
  have H := H.toRow 2 1 1 rfl (by omega)
  rw [show (pc root).take (1 * 2) = prs [root] from rfl] at H
  have H := dropQ2 H
  refine loopQ_intro (fun n E m' => ∃ at_ row u8 u9, n + at_ = C.length + 1 ∧ at_ ≤ row.length ∧ E = [(1, .slice sa R.length sc), (3, .pointer (some ⟨b3, 0, none⟩)), (8, u8), (9, u9), (10, .int .i64 (at_ : Nat))] ∧ bfs C done n at_ row = tgt ∧ (∀ x ∈ row, lkC x C ≠ none) ∧ row.Nodup ∧
    Hq m m' [] [ownA 23 2 u9 row.length (prs row), ownA 52 23 u8 at_ ((kmap C (row.take at_)).flatMap knE), cellA b3 (.cells (dv done).toArray 30 (0, 0))]) (C.length + 1) rfl ⟨0, [root], .slice none 0 0, _, rfl, by simp, rfl, hT, by simpa using hr, by simp, H⟩ ?_
  clear H f
  rintro n E m' ⟨at_, row, u8, u9, hn, ha, rfl, hb, hin, hnd, H⟩
  have hlen := row_le hnd hin
  refine Own.formK (H.at 0 rfl) fun ua uc e => ?_
  subst e
  refine Own.formK (H.at 1 rfl) fun va vc e => ?_
  subst e
  have hrow : ∀ {M : Mem} {n : Nat} {a : Option Addr} {c : Nat} {row : List I2}, row.length = n → Own M 23 2 (.slice a n c) n (prs row) → RdS 2 pc M (.slice a n c) row := fun e h => Own.rdsN (by decide) pc_len e h
  simp (disch := omega) only [go_sem, undef]
  refine condB_dec (fun hlt => ?_) (fun hlt => ?_)
  · have hlt : at_ < row.length := by omega
    refine RdS.elN (hrow rfl (H.at 0 rfl)) rfl hlt (by decide) fun b o x hx hix hE => ?_
    have hxin := hin x (List.mem_of_getElem? hx)
    have hsome : (lkC x C).isSome = true := by cases e : lkC x C with
      | none => exact absurd e hxin
      | some c => rfl
    have hx2 := hLo.v x hxin
    obtain ⟨f0, rfl⟩ : ∃ f0, n = f0 + 1 := ⟨n - 1, by omega⟩
    rw [bfs_some hx, ← restR_0] at hb
    have hat := fun r (hr : r < 7) => getD_att hLo.sm x hr
    have hks := kmap_snoc C (row.take at_) x
    have htk : row.take at_ ++ [x] = row.take (at_ + 1) := by rw [List.take_add_one, hx]; rfl
    rw [htk] at hks
    simp (disch := omega) only [go_sem, undef, hix, hE.lda0, pc_take]
    refine callQ H (hget H.fr x) fun M f H => ?_
    rw [hsome]
    generalize (lkC x C).getD Cel.zero = cc at *
    simp (disch := omega) only [go_sem, undef]
    refine newQ H fun b11 M f' H => ?_
    simp (disch := omega) only [go_sem, undef]
    refine stwQ0 H rfl rfl fun M f'' H => ?_
    simp (disch := omega) only [go_sem, undef, dec_f (show ¬ (512 : Int) ≤ (at_ : Nat) by omega)]
    clear hE hix
    refine RdS.elN (hrow rfl (H.at 1 rfl)) rfl hlt (by decide) fun b o x' hx' hix hE => ?_
    have hxe : x' = x := by rw [hx] at hx'; exact (Option.some.inj hx').symm
    rw [hxe] at hE
    simp (disch := omega) only [go_sem, undef, hix, hE.lda0, pc_take, H.cs, Cel.all, knc_bld, knc_spl]
    refine newQ H fun b13 M f H => ?_
    simp (disch := omega) only [go_sem, undef]
    have hkx : pc x ++ cc.cs = knE (x, cc) := rfl
    rw [hkx] at H
    refine appQ3 H rfl (news := knE (x, cc)) (ldS_cell (n := 23) H.cs.1 (by rw [knE_len]; decide)) (knE_len _) (fun v hv => List.all_eq_true.1 (knE_oneP _) v hv) rfl (by omega) (by omega) fun u8 M f H => ?_
    rw [hks] at H
    have H := dropQ0 H
    simp (disch := omega) only [go_sem, undef]
    clear hix hE hx' hks
    refine loopQ_intro (fun n E m' => ∃ r row2 u9, r ≤ 7 ∧ n = 7 - r ∧ E = [(1, .slice sa R.length sc), (3, .pointer (some ⟨b3, 0, none⟩)), (8, u8), (9, u9), (10, .int .i64 (at_ : Nat)), (11, .pointer (some ⟨b11, 0, none⟩)), (13, .int .i64 (r : Nat))] ∧
      bfsK C done f0 at_ (visit C row2 (restR done x cc.att r)) = tgt ∧ (∃ t, row2 = row ++ t) ∧ (∀ x ∈ row2, lkC x C ≠ none) ∧ row2.Nodup ∧
      Hq m m' [] [cellA b11 (.cells cc.cs.toArray 38 (0, 0)), ownA 23 2 u9 row2.length (prs row2), ownA 52 23 u8 (at_ + 1) ((kmap C (row.take (at_ + 1))).flatMap knE), cellA b3 (.cells (dv done).toArray 30 (0, 0))]) 7 rfl ⟨0, row, _, by omega, rfl, rfl, hb, ⟨[], by simp⟩, hin, hnd, H⟩ ?_
    clear H f f' f'' hb hin hnd
    rintro n E m' ⟨r, row2, u9, hr7, rfl, rfl, hb, ⟨t2, ht2⟩, hin, hnd, H⟩
    have hlen2 := row_le hnd hin
    have hx2' : row2[at_]? = some x := by rw [ht2, List.getElem?_append_left hlt]; exact hx
    have hlt2 : at_ < row2.length := (List.getElem?_eq_some_iff.1 hx2').1
    refine Own.formK (H.at 1 rfl) fun ua uc e => ?_
    subst e
    simp (disch := omega) only [go_sem, undef]
    refine condB_dec (fun hr => ?_) (fun hr => ?_)
    · have hr : r < 7 := by omega
      have hdr := hd r hr
      have har := hat r hr
      have hup : upto x cc.att r ≤ 1000 ∧ -1 ≤ upto x cc.att r := by unfold upto; split <;> omega
      rw [restR_step _ _ _ hr] at hb
      refine RdS.elN (hrow rfl (H.at 1 rfl)) rfl hlt2 (by decide) fun b o x' hx' hix hE => ?_
      have hxe : x' = x := by rw [hx2'] at hx'; exact (Option.some.inj hx').symm
      rw [hxe] at hE
      by_cases hrep : (r : Int) = x.1
      · have hto : upto x cc.att r = max (cc.att.deps.g r) (x.2 - 1) := by unfold upto; rw [if_pos hrep]
        have hxn : (x.2 - 1 : Int) ≤ 40 ∧ 0 ≤ x.2 - 1 := by omega
        simp (disch := omega) only [go_sem, undef, H.cs, cel_gd _ r hr, hix, hE.ld, hE.ld0, dec_t hrep]
        rw [hto] at hb hup
        generalize max (cc.att.deps.g r) (x.2 - 1) = to at *
        refine loopQ_intro (fun n E m' => ∃ (s : Int) (row2 : List I2) (u9 : Value), 1 ≤ s ∧ s ≤ 2000 ∧ n = (to + 1 - s).toNat ∧ E = [(1, .slice sa R.length sc), (3, .pointer (some ⟨b3, 0, none⟩)), (8, u8), (9, u9), (10, .int .i64 (at_ : Nat)), (11, .pointer (some ⟨b11, 0, none⟩)), (13, .int .i64 (r : Nat)), (14, .int .i64 to), (15, .int .i64 s)] ∧
          bfsK C done f0 at_ (visit C row2 (((slots (s - 1) to).map fun s => ((r : Int), s)) ++ restR done x cc.att (r + 1))) = tgt ∧ (∃ t, row2 = row ++ t) ∧ (∀ x ∈ row2, lkC x C ≠ none) ∧ row2.Nodup ∧
          Hq m m' [] [cellA b11 (.cells cc.cs.toArray 38 (0, 0)), ownA 23 2 u9 row2.length (prs row2), ownA 52 23 u8 (at_ + 1) ((kmap C (row.take (at_ + 1))).flatMap knE), cellA b3 (.cells (dv done).toArray 30 (0, 0))]) _ rfl ⟨done.g r + 1, row2, _, by omega, by omega, rfl, rfl, by rw [show done.g r + 1 - 1 = done.g r by omega]; exact hb, ⟨t2, ht2⟩, hin, hnd, H⟩ ?_
        clear H hb hin hnd hx' hix hE hlen2 hx2' hlt2
        clear ht2
        rintro n E m' ⟨s, row2, u9, hs1, hs2, rfl, rfl, hb, ⟨t2, ht2⟩, hin, hnd, H⟩
        have hlen2 := row_le hnd hin
        refine Own.formK (H.at 1 rfl) fun ua uc e => ?_
        subst e
        simp (disch := omega) only [go_sem, undef]
        refine condB_dec (fun hst => ?_) (fun hst => ?_)
        · rw [slots_cons (by omega), List.map_cons, List.cons_append] at hb
          rw [show s - 1 + 1 = s by omega] at hb
          simp only [visit] at hb
          simp (disch := omega) only [go_sem, undef]
          refine newQ H fun b16 M f H => ?_
          simp (disch := omega) only [go_sem, undef]
          refine stwQ0 H rfl rfl fun M f H => ?_
          simp (disch := omega) only [go_sem, undef]
          refine loopQ_intro (fun n E m' => ∃ j, j ≤ row2.length ∧ n = row2.length - j ∧ E = [(1, .slice sa R.length sc), (3, .pointer (some ⟨b3, 0, none⟩)), (8, u8), (9, .slice ua row2.length uc), (10, .int .i64 (at_ : Nat)), (11, .pointer (some ⟨b11, 0, none⟩)), (13, .int .i64 (r : Nat)), (14, .int .i64 to), (15, .int .i64 s), (16, .pointer (some ⟨b16, 0, none⟩)), (17, .bool (decide (((r : Int), s) ∈ row2.take j))), (18, .int .i64 (j : Nat))] ∧ m' = M) row2.length rfl ⟨0, by omega, rfl, by rw [List.take_zero, decide_eq_false (by simp)] <;> rfl, rfl⟩ ?_
          rintro n E M' ⟨j, hj, rfl, rfl, rfl⟩
          simp (disch := omega) only [go_sem, undef]
          refine condB_dec (fun hjl => ?_) (fun hjl => ?_)
          · have hjl : j < row2.length := by omega
            refine RdS.elN (hrow rfl (H.at 2 rfl)) rfl hjl (by decide) fun b o y hy hix hE => ?_
            have hmj : ((r : Int), s) ∈ row2.take (j + 1) ↔ ((r : Int), s) ∈ row2.take j ∨ y = ((r : Int), s) := by
              rw [List.take_add_one, hy]; simp [eq_comm]
            by_cases hm : ((r : Int), s) ∈ row2.take j
            · simp (disch := omega) only [go_sem, undef, dec_t hm]
              exact handN_intro (row2.length - (j + 1)) (by omega) ⟨j + 1, by omega, rfl, by rw [decide_eq_true (hmj.2 (.inl hm))] <;> rfl, rfl⟩
            · by_cases hy2 : y = ((r : Int), s)
              · simp (disch := omega) only [go_sem, undef, dec_f hm, hix, hE.lda0, H.cs, pc_take, dec_t hy2]
                exact handN_intro (row2.length - (j + 1)) (by omega) ⟨j + 1, by omega, rfl, by rw [decide_eq_true (hmj.2 (.inr hy2))] <;> rfl, rfl⟩
              · simp (disch := omega) only [go_sem, undef, dec_f hm, hix, hE.lda0, H.cs, pc_take, dec_f hy2]
                exact handN_intro (row2.length - (j + 1)) (by omega) ⟨j + 1, by omega, rfl, by rw [decide_eq_false (fun h => (hmj.1 h).elim hm hy2)] <;> rfl, rfl⟩
          · have e : j = row2.length := by omega
            subst e
            rw [List.take_length]
            by_cases hm : ((r : Int), s) ∈ row2
            · have hne : lkC ((r : Int), s) C ≠ none := hin _ hm
              rw [if_neg hne, if_pos hm] at hb
              simp (disch := omega) only [go_sem, undef, dec_t hm]
              exact handN_intro (to + 1 - (s + 1)).toNat (by omega) ⟨s + 1, row2, _, by omega, by omega, rfl, rfl, by rw [show s + 1 - 1 = s by omega]; exact hb, ⟨t2, ht2⟩, hin, hnd, dropQ0 H⟩
            · simp (disch := omega) only [go_sem, undef, dec_f hm, H.cs, pc_take]
              refine newQ H fun b17 M f H => ?_
              simp (disch := omega) only [go_sem, undef]
              refine appQ3 H rfl (news := pc ((r : Int), s)) (ldS_cell (n := 2) H.cs.1 (by rw [pc_len]; decide)) (pc_len _) (fun v hv => List.all_eq_true.1 (pc_one _) v hv) rfl (by omega) (by omega) fun u9b M f H => ?_
              have H := dropQ0 H
              simp (disch := omega) only [go_sem, undef, H.cs, pc_take]
              refine callQ H (hget H.fr ((r : Int), s)) fun M f H => ?_
              cases hlk : lkC ((r : Int), s) C with
              | none =>
                rw [hlk, if_pos rfl] at hb
                simp only [bfsK] at hb
                subst hb
                simp (disch := omega) only [go_sem, undef, Option.isSome_none]
                refine newQ H fun b20 M f H => ?_
                simp (disch := omega) only [go_sem, undef]
                refine stwQ0 H rfl rfl fun M f H => ?_
                have H := dropQ0 H
                simp (disch := omega) only [go_sem, undef, H.cs, pc_take]
                refine newQ H fun b21 M f H => ?_
                simp (disch := omega) only [go_sem, undef]
                have H := H.toRow 2 1 1 rfl (by omega)
                exact ⟨_, ⟨_, rfl, rfl⟩, H.at 0 rfl, H.fr, fun b hb => (H.nw _ (List.mem_cons_self ..) b hb).resolve_right (by simp)⟩
              | some cl =>
                rw [hlk, if_neg (by simp), if_neg hm] at hb
                simp (disch := omega) only [go_sem, undef, Option.isSome_some]
                refine newQ H fun b20 M f H => ?_
                simp (disch := omega) only [go_sem, undef]
                refine stwQ0 H rfl rfl fun M f H => ?_
                have H := dropQ0 (dropQ0 H)
                have hL : row2.length + 1 = (row2 ++ [((r : Int), s)]).length ∧ prs row2 ++ pc ((r : Int), s) = prs (row2 ++ [((r : Int), s)]) := by simp [prs]
                rw [hL.1, hL.2] at H
                simp (disch := omega) only [go_sem, undef]
                exact handN_intro (to + 1 - (s + 1)).toNat (by omega) ⟨s + 1, row2 ++ [((r : Int), s)], u9b, by omega, by omega, rfl, rfl, by rw [show s + 1 - 1 = s by omega]; exact hb, ⟨t2 ++ [((r : Int), s)], by rw [ht2, List.append_assoc]⟩, fun y hy => by
                  rcases List.mem_append.1 hy with hy | hy
                  · exact hin y hy
                  · simp only [List.mem_singleton] at hy
                    rw [hy, hlk]; simp, List.nodup_append.2 ⟨hnd, by simp, fun a ha b hb => by
                      simp only [List.mem_singleton] at hb; subst hb; rintro rfl; exact hm ha⟩, H⟩
        · rw [slots_nil (by omega), List.map_nil, List.nil_append] at hb
          simp (disch := omega) only [go_sem, undef]
          exact handN_intro (7 - (r + 1)) (by omega) ⟨r + 1, row2, _, by omega, rfl, rfl, hb, ⟨t2, ht2⟩, hin, hnd, H⟩
      · have hto : upto x cc.att r = cc.att.deps.g r := by unfold upto; rw [if_neg hrep]
        simp (disch := omega) only [go_sem, undef, H.cs, cel_gd _ r hr, hix, hE.ld, hE.ld0, dec_f hrep]
        rw [hto] at hb hup
        generalize cc.att.deps.g r = to at *
        refine loopQ_intro (fun n E m' => ∃ (s : Int) (row2 : List I2) (u9 : Value), 1 ≤ s ∧ s ≤ 2000 ∧ n = (to + 1 - s).toNat ∧ E = [(1, .slice sa R.length sc), (3, .pointer (some ⟨b3, 0, none⟩)), (8, u8), (9, u9), (10, .int .i64 (at_ : Nat)), (11, .pointer (some ⟨b11, 0, none⟩)), (13, .int .i64 (r : Nat)), (14, .int .i64 to), (15, .int .i64 s)] ∧
          bfsK C done f0 at_ (visit C row2 (((slots (s - 1) to).map fun s => ((r : Int), s)) ++ restR done x cc.att (r + 1))) = tgt ∧ (∃ t, row2 = row ++ t) ∧ (∀ x ∈ row2, lkC x C ≠ none) ∧ row2.Nodup ∧
          Hq m m' [] [cellA b11 (.cells cc.cs.toArray 38 (0, 0)), ownA 23 2 u9 row2.length (prs row2), ownA 52 23 u8 (at_ + 1) ((kmap C (row.take (at_ + 1))).flatMap knE), cellA b3 (.cells (dv done).toArray 30 (0, 0))]) _ rfl ⟨done.g r + 1, row2, _, by omega, by omega, rfl, rfl, by rw [show done.g r + 1 - 1 = done.g r by omega]; exact hb, ⟨t2, ht2⟩, hin, hnd, H⟩ ?_
        clear H hb hin hnd hx' hix hE hlen2 hx2' hlt2
        clear ht2
        rintro n E m' ⟨s, row2, u9, hs1, hs2, rfl, rfl, hb, ⟨t2, ht2⟩, hin, hnd, H⟩
        have hlen2 := row_le hnd hin
        refine Own.formK (H.at 1 rfl) fun ua uc e => ?_
        subst e
        simp (disch := omega) only [go_sem, undef]
        refine condB_dec (fun hst => ?_) (fun hst => ?_)
        · rw [slots_cons (by omega), List.map_cons, List.cons_append] at hb
          rw [show s - 1 + 1 = s by omega] at hb
          simp only [visit] at hb
          simp (disch := omega) only [go_sem, undef]
          refine newQ H fun b16 M f H => ?_
          simp (disch := omega) only [go_sem, undef]
          refine stwQ0 H rfl rfl fun M f H => ?_
          simp (disch := omega) only [go_sem, undef]
          refine loopQ_intro (fun n E m' => ∃ j, j ≤ row2.length ∧ n = row2.length - j ∧ E = [(1, .slice sa R.length sc), (3, .pointer (some ⟨b3, 0, none⟩)), (8, u8), (9, .slice ua row2.length uc), (10, .int .i64 (at_ : Nat)), (11, .pointer (some ⟨b11, 0, none⟩)), (13, .int .i64 (r : Nat)), (14, .int .i64 to), (15, .int .i64 s), (16, .pointer (some ⟨b16, 0, none⟩)), (17, .bool (decide (((r : Int), s) ∈ row2.take j))), (18, .int .i64 (j : Nat))] ∧ m' = M) row2.length rfl ⟨0, by omega, rfl, by rw [List.take_zero, decide_eq_false (by simp)] <;> rfl, rfl⟩ ?_
          rintro n E M' ⟨j, hj, rfl, rfl, rfl⟩
          simp (disch := omega) only [go_sem, undef]
          refine condB_dec (fun hjl => ?_) (fun hjl => ?_)
          · have hjl : j < row2.length := by omega
            refine RdS.elN (hrow rfl (H.at 2 rfl)) rfl hjl (by decide) fun b o y hy hix hE => ?_
            have hmj : ((r : Int), s) ∈ row2.take (j + 1) ↔ ((r : Int), s) ∈ row2.take j ∨ y = ((r : Int), s) := by
              rw [List.take_add_one, hy]; simp [eq_comm]
            by_cases hm : ((r : Int), s) ∈ row2.take j
            · simp (disch := omega) only [go_sem, undef, dec_t hm]
              exact handN_intro (row2.length - (j + 1)) (by omega) ⟨j + 1, by omega, rfl, by rw [decide_eq_true (hmj.2 (.inl hm))] <;> rfl, rfl⟩
            · by_cases hy2 : y = ((r : Int), s)
              · simp (disch := omega) only [go_sem, undef, dec_f hm, hix, hE.lda0, H.cs, pc_take, dec_t hy2]
                exact handN_intro (row2.length - (j + 1)) (by omega) ⟨j + 1, by omega, rfl, by rw [decide_eq_true (hmj.2 (.inr hy2))] <;> rfl, rfl⟩
              · simp (disch := omega) only [go_sem, undef, dec_f hm, hix, hE.lda0, H.cs, pc_take, dec_f hy2]
                exact handN_intro (row2.length - (j + 1)) (by omega) ⟨j + 1, by omega, rfl, by rw [decide_eq_false (fun h => (hmj.1 h).elim hm hy2)] <;> rfl, rfl⟩
          · have e : j = row2.length := by omega
            subst e
            rw [List.take_length]
            by_cases hm : ((r : Int), s) ∈ row2
            · have hne : lkC ((r : Int), s) C ≠ none := hin _ hm
              rw [if_neg hne, if_pos hm] at hb
              simp (disch := omega) only [go_sem, undef, dec_t hm]
              exact handN_intro (to + 1 - (s + 1)).toNat (by omega) ⟨s + 1, row2, _, by omega, by omega, rfl, rfl, by rw [show s + 1 - 1 = s by omega]; exact hb, ⟨t2, ht2⟩, hin, hnd, dropQ0 H⟩
            · simp (disch := omega) only [go_sem, undef, dec_f hm, H.cs, pc_take]
              refine newQ H fun b17 M f H => ?_
              simp (disch := omega) only [go_sem, undef]
              refine appQ3 H rfl (news := pc ((r : Int), s)) (ldS_cell (n := 2) H.cs.1 (by rw [pc_len]; decide)) (pc_len _) (fun v hv => List.all_eq_true.1 (pc_one _) v hv) rfl (by omega) (by omega) fun u9b M f H => ?_
              have H := dropQ0 H
              simp (disch := omega) only [go_sem, undef, H.cs, pc_take]
              refine callQ H (hget H.fr ((r : Int), s)) fun M f H => ?_
              cases hlk : lkC ((r : Int), s) C with
              | none =>
                rw [hlk, if_pos rfl] at hb
                simp only [bfsK] at hb
                subst hb
                simp (disch := omega) only [go_sem, undef, Option.isSome_none]
                refine newQ H fun b20 M f H => ?_
                simp (disch := omega) only [go_sem, undef]
                refine stwQ0 H rfl rfl fun M f H => ?_
                have H := dropQ0 H
                simp (disch := omega) only [go_sem, undef, H.cs, pc_take]
                refine newQ H fun b21 M f H => ?_
                simp (disch := omega) only [go_sem, undef]
                have H := H.toRow 2 1 1 rfl (by omega)
                exact ⟨_, ⟨_, rfl, rfl⟩, H.at 0 rfl, H.fr, fun b hb => (H.nw _ (List.mem_cons_self ..) b hb).resolve_right (by simp)⟩
              | some cl =>
                rw [hlk, if_neg (by simp), if_neg hm] at hb
                simp (disch := omega) only [go_sem, undef, Option.isSome_some]
                refine newQ H fun b20 M f H => ?_
                simp (disch := omega) only [go_sem, undef]
                refine stwQ0 H rfl rfl fun M f H => ?_
                have H := dropQ0 (dropQ0 H)
                have hL : row2.length + 1 = (row2 ++ [((r : Int), s)]).length ∧ prs row2 ++ pc ((r : Int), s) = prs (row2 ++ [((r : Int), s)]) := by simp [prs]
                rw [hL.1, hL.2] at H
                simp (disch := omega) only [go_sem, undef]
                exact handN_intro (to + 1 - (s + 1)).toNat (by omega) ⟨s + 1, row2 ++ [((r : Int), s)], u9b, by omega, by omega, rfl, rfl, by rw [show s + 1 - 1 = s by omega]; exact hb, ⟨t2 ++ [((r : Int), s)], by rw [ht2, List.append_assoc]⟩, fun y hy => by
                  rcases List.mem_append.1 hy with hy | hy
                  · exact hin y hy
                  · simp only [List.mem_singleton] at hy
                    rw [hy, hlk]; simp, List.nodup_append.2 ⟨hnd, by simp, fun a ha b hb => by
                      simp only [List.mem_singleton] at hb; subst hb; rintro rfl; exact hm ha⟩, H⟩
        · rw [slots_nil (by omega), List.map_nil, List.nil_append] at hb
          simp (disch := omega) only [go_sem, undef]
          exact handN_intro (7 - (r + 1)) (by omega) ⟨r + 1, row2, _, by omega, rfl, rfl, hb, ⟨t2, ht2⟩, hin, hnd, H⟩
    · have e7 : r = 7 := by omega
      subst e7
      rw [restR_7] at hb
      simp only [visit, bfsK] at hb
      simp (disch := omega) only [go_sem, undef]
      exact handN_intro f0 (by omega) ⟨at_ + 1, row2, _, _, by omega, by omega, rfl, hb, hin, hnd, by
        have : row.take (at_ + 1) = row2.take (at_ + 1) := by rw [ht2, List.take_append_of_le_length (by omega)]
        rw [← this]; exact dropQ0 H⟩
  · have hae : at_ = row.length := by omega
    have ht : tgt = .inl row := by
      rw [← hb]
      cases n with
      | zero => rfl
      | succ n =>
        simp only [bfs]
        rw [List.getElem?_eq_none (by omega)]
    subst ht
    subst hae
    rw [List.take_length] at H
    simp (disch := omega) only [go_sem, undef]
    exact ⟨_, ⟨_, rfl, rfl⟩, H.at 1 rfl, H.fr, fun b hb => (H.nw _ (List.mem_of_getElem? (i := 1) rfl) b hb).resolve_right (by simp)⟩
end Go.Fw

set_option linter.unusedSimpArgs false
set_option linter.unusedVariables false
namespace Go.Fw
open Go.Proofs
theorem upD_perm {d : Dp} {a b : List I2} (h : ∀ i, i ∈ a ↔ i ∈ b) : upD d a = upD d b := Dp.ext_g fun r hr => le_of_all fun s => by
  rw [upD_le hr, upD_le hr]
  simp only [h]
theorem same_sortI {a M : List I2} (ha : Asc a) (hM : M.Nodup) (h : ∀ y, y ∈ a ↔ y ∈ M) : a = sortI M := by
  have hn : a.Nodup := ha.imp (fun {x y} hxy => by rintro rfl; exact lt2_irr _ hxy)
  exact asc_sortR ((List.perm_ext_iff_of_nodup hn hM).2 h) hM ha
theorem stR_nd {C : LogL} {d0 done : Dp} {out : List I2} (h : PI C d0 done out) (r : Nat) (hr : r ≤ 7) : (stR C done out r).mis.Nodup := (stR_RI h r hr).nd
noncomputable abbrev refR (a b : Value) (C : LogL) (d0 : Dp) : As := starA (ownA 52 23 a (kmap C (planL C d0).1).length ((kmap C (planL C d0).1).flatMap knE)) (ownA T_api_Inst 2 b (planL C d0).2.length (prs (planL C d0).2))
set_option maxHeartbeats 16000000 in
theorem ref19_Plan_s {m : Mem} {d0 : Dp} {R : List Kn} {sv : Value} (hR : RdS 23 knE m sv R) (hl : R.length ≤ 40) (hlow : ∀ p ∈ R, LowK p) (hd : ∀ r, r < 7 → 0 ≤ d0.g r ∧ d0.g r ≤ 1000) :
    CN Try.prog n_ref19_Plan [d0.v, sv] m fun v A => ∃ a b, v = .tuple #[a, b] ∧ A = refR a b (plC R) d0 := by
  have hget := fun {M : Mem} (f : Fr m M []) k => ref19_get_s (hR.frame f) (by omega) k
  have hbey := fun {M : Mem} (f : Fr m M []) k => ref19_beyond_s (hR.frame f) (by omega) k
  have hclo := fun {M : Mem} (f : Fr m M []) {done : Dp} (hd : ∀ r, r < 7 → 0 ≤ done.g r ∧ done.g r ≤ 1000) root hr => ref19_closure_s (hR.frame f) hl hlow (done := done) hd root hr
  have hC := Nat.le_trans (plC_PC R).len hl
  have hLo := plC_low hlow
  generalize plC R = C at *
  obtain ⟨sa, sc, esv⟩ := hR.form
  subst esv
  refine ref19_Plan_go (by simp [Try.f33]) ?_
  have H := Hq.refl m []
  simp (disch := omega) only [go_sem, undef]
  refine newQ H fun b2 M f H => ?_
  have H := ((H.nilRow 52 23).nilRow 23 2)
  simp (disch := omega) only [go_sem, undef]
  refine loopQ_intro (fun n E m' => ∃ (mv : Bool) (done : Dp) (out ml : List I2) (u6 u7 : Value), E = [(1, .slice sa R.length sc), (2, .pointer (some ⟨b2, 0, none⟩)), (6, u6), (7, u7), (8, .bool mv)] ∧ PI C d0 done out ∧ ml.length ≤ 7 ∧
    (mv = true → planP C n done out = planL C d0 ∧ C.length < n + out.length) ∧ (mv = false → ∃ Ms : List I2, Ms.Nodup ∧ (∀ y, y ∈ ml ↔ y ∈ Ms) ∧ planL C d0 = (out, sortI Ms)) ∧
    Hq m m' [] [ownA 23 2 u7 ml.length (prs ml), ownA 52 23 u6 (kmap C out).length ((kmap C out).flatMap knE), cellA b2 (.cells (dv done).toArray 30 (0, 0))]) (C.length + 1) rfl
    ⟨true, d0, [], [], .slice none 0 0, .slice none 0 0, rfl, PI.start C d0, by simp, fun _ => ⟨rfl, by simp⟩, by simp, H⟩ ?_
  clear H f
  rintro n E m' ⟨mv, done, out, ml, u6, u7, rfl, hP, hml, hmt, hmf, H⟩
  have hol := hP.len
  cases mv with
  | false =>
    obtain ⟨Ms, hMs, hMm, hpl⟩ := hmf rfl
    simp (disch := omega) only [go_sem, undef]
    refine callN H (ref19_unique_s (Own.rds (by decide) pc_len (H.at 0 rfl)) (by omega)) fun v M A ⟨o, h1, h2, e⟩ f H => ?_
    subst e
    have eo : o = sortI Ms := same_sortI h1 hMs (fun y => (h2 y).trans (hMm y))
    subst eo
    simp (disch := omega) only [go_sem, undef]
    have H := ((H.up 2 rfl).up 1 rfl)
    have H := (H.up 1 rfl).join
    have e : refR u6 v C d0 = starA (ownA 52 23 u6 (kmap C out).length ((kmap C out).flatMap knE)) (ownA T_api_Inst 2 v (sortI Ms).length (prs (sortI Ms))) := by unfold refR; rw [hpl]
    exact ⟨_, ⟨u6, v, rfl, e.symm⟩, H.at 0 rfl, H.fr, fun b hb => (H.nw _ (List.mem_cons_self ..) b hb).resolve_right (by simp)⟩
  | true =>
    obtain ⟨hplP, hn⟩ := hmt rfl
    obtain ⟨n, rfl⟩ : ∃ n', n = n' + 1 := ⟨n - 1, by omega⟩
    simp only [planP] at hplP
    clear hmt hmf
    have H := (H.drop 0).nilRow 23 2
    simp (disch := omega) only [go_sem, undef]
    refine loopQ_intro (fun z E m' => ∃ r ml u6 u7, r ≤ 7 ∧ z = 7 - r ∧ E = [(1, .slice sa R.length sc), (2, .pointer (some ⟨b2, 0, none⟩)), (6, u6), (7, u7), (8, .bool (stR C done out r).did), (9, .int .i64 (r : Nat))] ∧ ml.length ≤ r ∧ (∀ y, y ∈ ml ↔ y ∈ (stR C done out r).mis) ∧
      Hq m m' [] [ownA 23 2 u7 ml.length (prs ml), ownA 52 23 u6 (kmap C (stR C done out r).out).length ((kmap C (stR C done out r).out).flatMap knE), cellA b2 (.cells (dv (stR C done out r).done).toArray 30 (0, 0))]) 7 rfl
      ⟨0, [], u6, .slice none 0 0, by omega, by omega, rfl, by simp, by simp [stR], H⟩ ?_
    clear H
    rintro z E m' ⟨r, ml, u6, u7, hr7, rfl, rfl, hmr, hmm, H⟩
    simp (disch := omega) only [go_sem, undef]
    refine condB_dec (fun hr => ?_) (fun hr => ?_)
    · have hr : r < 7 := by omega
      have hRI := stR_RI hP r hr7
      have hst := stR_succ C done out r
      have hk := hLo.key
      have hbd := hRI.pi.bd hk hd
      have hdr := hbd r hr
      have hol := hRI.pi.len
      generalize stR C done out r = s at *
      simp (disch := omega) only [go_sem, undef, H.cs]
      refine newQ H fun b10 M f H => ?_
      simp (disch := omega) only [go_sem, undef]
      refine stwQ0 H rfl rfl fun M f H => ?_
      simp (disch := omega) only [go_sem, undef, H.cs, pc_take]
      refine callQ H (hget H.fr ((r : Int), s.done.g r + 1)) fun M f H => ?_
      cases hlk : lkC ((r : Int), s.done.g r + 1) C with
      | none =>
        simp (disch := omega) only [go_sem, undef, Option.isSome_none]
        refine newQ H fun b11 M f H => ?_
        simp (disch := omega) only [go_sem, undef]
        refine stwQ0 H rfl rfl fun M f H => ?_
        have H := dropQ0 H
        simp (disch := omega) only [go_sem, undef, H.cs, pc_take]
        refine callQ H (hbey H.fr ((r : Int), s.done.g r + 1)) fun M f H => ?_
        by_cases hb : beyond C ((r : Int), s.done.g r + 1)
        · have hs : stepP C s r = { s with mis := addI ((r : Int), s.done.g r + 1) s.mis } := stepB hlk hb
          simp (disch := omega) only [go_sem, undef, dec_t hb, H.cs, pc_take]
          refine newQ H fun b12 M f H => ?_
          simp (disch := omega) only [go_sem, undef]
          refine appQ2 H rfl (news := pc ((r : Int), s.done.g r + 1)) (ldS_cell (n := 2) H.cs.1 (by rw [pc_len]; decide)) (pc_len _) (fun v hv => List.all_eq_true.1 (pc_one _) v hv) rfl (by omega) (by omega) fun u7b M f H => ?_
          have H := dropQ0 (dropQ0 H)
          have hL : ml.length + 1 = (ml ++ [((r : Int), s.done.g r + 1)]).length ∧ prs ml ++ pc ((r : Int), s.done.g r + 1) = prs (ml ++ [((r : Int), s.done.g r + 1)]) := by simp [prs]
          rw [hL.1, hL.2] at H
          simp (disch := omega) only [go_sem, undef]
          exact handN_intro (7 - (r + 1)) (by omega) ⟨r + 1, ml ++ [((r : Int), s.done.g r + 1)], u6, u7b, by omega, rfl, by rw [hst, hs] <;> rfl, by simp; omega, fun y => by
            rw [hst, hs, List.mem_append, hmm]
            simp only [addI_mem, List.mem_singleton]
            exact Or.comm, by rw [hst, hs]; exact H⟩
        · have hs : stepP C s r = s := stepN hlk hb
          simp (disch := omega) only [go_sem, undef, dec_f hb]
          exact handN_intro (7 - (r + 1)) (by omega) ⟨r + 1, ml, u6, u7, by omega, rfl, by rw [hst, hs] <;> rfl, by omega, fun y => by rw [hst, hs]; exact hmm y, by rw [hst, hs]; exact dropQ0 H⟩
      | some cl =>
        have hr0 : lkC ((r : Int), s.done.g r + 1) C ≠ none := by rw [hlk]; simp
        simp (disch := omega) only [go_sem, undef, Option.isSome_some]
        refine newQ H fun b11 M f H => ?_
        simp (disch := omega) only [go_sem, undef]
        refine stwQ0 H rfl rfl fun M f H => ?_
        have H := dropQ0 H
        simp (disch := omega) only [go_sem, undef, H.cs, pc_take]
        refine callN H (hclo H.fr hbd ((r : Int), s.done.g r + 1) hr0) fun v M A' hm f H => ?_
        generalize hh : hangs C s.done ((r : Int), s.done.g r + 1) = tgt at hm
        cases tgt with
        | inr k =>
          have hs : stepP C s r = { s with mis := addI k s.mis } := stepM hr0 hh
          obtain ⟨w, e1, e2⟩ := hm
          subst e1
          subst e2
          refine Own.formK (H.at 0 rfl) fun wa wc e => ?_
          subst e
          have H := dropQ1 H
          have hkR : ∀ {M : Mem}, Own M 23 2 (.slice wa 1 wc) 1 (prs [k]) → ldS M wa (1 * 2) = some (prs [k]) := fun h => ldS_of (l := [k]) (Own.rdsN (by decide) pc_len rfl h)
          simp (disch := omega) only [go_sem, undef]
          refine appQ1 H rfl (news := prs [k]) (hkR (H.at 0 rfl)) rfl (fun v hv => prs_one _ v hv) rfl (by omega) (by omega) fun u7b M f H => ?_
          have hL : ml.length + 1 = (ml ++ [k]).length ∧ prs ml ++ prs [k] = prs (ml ++ [k]) := by simp [prs]
          rw [hL.1, hL.2] at H
          simp (disch := omega) only [go_sem, undef, Option.isNone_none]
          exact handN_intro (7 - (r + 1)) (by omega) ⟨r + 1, ml ++ [k], u6, u7b, by omega, rfl, by rw [hst, hs] <;> rfl, by simp; omega, fun y => by
            rw [hst, hs, List.mem_append, hmm]
            simp only [addI_mem, List.mem_singleton]
            exact Or.comm, by rw [hst, hs]; exact H.drop 0⟩
        | inl row =>
          have hs : stepP C s r = { s with done := upD s.done (orderL C row), out := s.out ++ orderL C row, did := true } := stepD hr0 hh
          obtain ⟨RI, hin⟩ := hangs_row hr hh hr0
          have hrl := row_le RI.nd RI.inC
          have hrp := List.length_pos_of_mem hin
          obtain ⟨u13, e1, e2⟩ := hm
          subst e1
          subst e2
          have H := dropQ1 H
          have hrlow : ∀ i ∈ row, (0 ≤ i.1 ∧ i.1 < 7) ∧ 1 ≤ i.2 ∧ i.2 ≤ 1000 := fun i hi => by have := hLo.v i (RI.inC i hi); exact ⟨RI.rp i hi, this.2.1, by omega⟩
          have hupe : upD s.done (orderL C row) = upD s.done row := upD_perm fun i => (orderL_perm C row).mem_iff
          have hol2 : (orderL C row).length = row.length := (orderL_perm C row).length_eq
          have hro : ∀ {M : Mem} {v : Value} {n : Nat}, n = row.length → Own M 52 23 v n ((kmap C row).flatMap knE) → RdS 23 knE M v (kmap C row) := fun e h => Own.rdsN (by decide) knE_len (by rw [kmap_len, e]) h
          refine Own.rowK (H.at 0 rfl) hrp fun rb rc rt ea _ _ => ?_
          subst ea
          have hnil : ∀ M : Mem, ldS M none (0 * 2) = some [] := fun M => rfl
          simp (disch := omega) only [go_sem, undef]
          refine appQ1 H rfl (news := []) (hnil _) rfl (by simp) rfl (by omega) (by omega) fun u7b M f H => ?_
          rw [Nat.add_zero, List.append_nil] at H
          simp (disch := omega) only [go_sem, undef, Option.isNone_some, H.cs]
          refine callN H (ref19_order_s s.done (hro rfl (H.at 0 rfl)) (by omega) RI.nd hrlow) fun v M A e f H => ?_
          subst e
          refine Own.formK (H.at 0 rfl) fun oa oc e => ?_
          subst e
          obtain ⟨n1, hn1⟩ : ∃ n1, n1 = (kmap C (orderL C row)).length := ⟨_, rfl⟩
          obtain ⟨n2, hn2⟩ : ∃ n2, n2 = (kmap C s.out).length := ⟨_, rfl⟩
          have hn1' : n1 ≤ 40 := by rw [hn1, kmap_len, hol2]; omega
          have hn2' : n2 ≤ 40 := by rw [hn2, kmap_len]; omega
          rw [← hn1, ← hn2] at H
          have hoR : ∀ {M : Mem}, Own M 52 23 (.slice oa n1 oc) n1 ((kmap C (orderL C row)).flatMap knE) → ldS M oa (n1 * 23) = some ((kmap C (orderL C row)).flatMap knE) := fun h => by
            have := Own.rdsN (enc := knE) (l := kmap C (orderL C row)) (by decide) knE_len hn1.symm h
            rw [hn1] at this ⊢
            exact ldS_of this
          rw [← hn1]
          simp (disch := omega) only [go_sem, undef]
          refine appQ3 H rfl (news := (kmap C (orderL C row)).flatMap knE) (hoR (H.at 0 rfl)) (by rw [fm_len knE_len, hn1]) (fun v hv => ?_) rfl (by omega) (by omega) fun u6b M f H => ?_
          · obtain ⟨p, _, hv⟩ := List.mem_flatMap.1 hv
            exact List.all_eq_true.1 (knE_oneP p) v hv
          have hLL : n2 + n1 = (kmap C (s.out ++ orderL C row)).length ∧ (kmap C s.out).flatMap knE ++ (kmap C (orderL C row)).flatMap knE = (kmap C (s.out ++ orderL C row)).flatMap knE := by
            rw [hn1, hn2]; simp [kmap]
          rw [hLL.1, hLL.2] at H
          have H := H.drop 0
          simp (disch := omega) only [go_sem, undef]
          refine loopQ_intro (fun z E m' => ∃ j, j ≤ row.length ∧ z = row.length - j ∧ E = [(1, .slice sa R.length sc), (2, .pointer (some ⟨b2, 0, none⟩)), (6, u6b), (7, u7b), (9, .int .i64 (r : Nat)), (13, .slice (some ⟨rb, 0, none⟩) row.length rc), (15, .int .i64 (j : Nat))] ∧
            Hq m m' [] [ownA 52 23 (.slice (some ⟨rb, 0, none⟩) row.length rc) row.length ((kmap C row).flatMap knE), ownA 23 2 u7b ml.length (prs ml), ownA 52 23 u6b (kmap C (s.out ++ orderL C row)).length ((kmap C (s.out ++ orderL C row)).flatMap knE), cellA b2 (.cells (dv (upD s.done (row.take j))).toArray 30 (0, 0))]) row.length rfl
            ⟨0, by omega, by omega, rfl, H⟩ ?_
          clear H f
          rintro z E M ⟨j, hj, rfl, rfl, H⟩
          simp (disch := omega) only [go_sem, undef]
          refine condB_dec (fun hjl => ?_) (fun hjl => ?_)
          · have hjl : j < row.length := by omega
            have hPj : row[j]? = some row[j] := List.getElem?_eq_getElem hjl
            have hrp := RI.rp row[j] (List.getElem_mem hjl)
            generalize row[j] = i at hPj hrp
            refine RdS.elN (hro rfl (H.at 0 rfl)) (kmap_len _ _) hjl (by decide) fun bx o p hp hix hE => ?_
            rw [kmap_get, hPj] at hp
            have hpe : p = kel C i := (Option.some.inj hp).symm
            subst hpe
            obtain ⟨i1, i2⟩ := i
            obtain ⟨q, rfl⟩ := Int.eq_ofNat_of_zero_le hrp.1
            have hq7 : q < 7 := by have := hrp.2; simp only at this; omega
            simp (disch := omega) only [go_sem, undef, hix, hE.lda0]
            refine newQ H fun b16 M f H => ?_
            simp (disch := omega) only [go_sem, undef]
            refine stwQ0 H rfl rfl fun M f H => ?_
            simp (disch := omega) only [go_sem, undef, H.cs]
            refine wrQ4 H fun M f H => ?_
            simp (disch := omega) only [go_sem, undef]
            exact handN_intro (row.length - (j + 1)) (by omega) ⟨j + 1, by omega, rfl, rfl, by
              rw [List.take_add_one, hPj, Option.toList_some, upD_snoc]; exact dropQ0 H⟩
          · have e : j = row.length := by omega
            subst e
            rw [List.take_length, ← hupe] at H
            simp (disch := omega) only [go_sem, undef]
            exact handN_intro (7 - (r + 1)) (by omega) ⟨r + 1, ml, u6b, u7b, by omega, rfl, by rw [hst, hs] <;> rfl, by omega, fun y => by rw [hst, hs]; exact hmm y, by rw [hst, hs]; exact H.drop 0⟩
    · have e : r = 7 := by omega
      subst e
      have hRI := stR_RI hP 7 (by omega)
      have hsr : stR C done out 7 = roundP C done out := rfl
      rw [← hsr] at hplP
      clear hsr
      have hmn := hRI.nd
      have hlen := hRI.len
      generalize stR C done out 7 = s at *
      simp (disch := omega) only [go_sem, undef]
      refine handN_intro n (by omega) ⟨s.did, s.done, s.out, ml, u6, u7, rfl, hRI.pi, by omega, fun h => ?_, fun h => ?_, H⟩
      · rw [h] at hplP hlen
        simp only [if_true] at hplP hlen
        exact ⟨hplP, by omega⟩
      · rw [h] at hplP
        simp only [Bool.false_eq_true, if_false] at hplP
        exact ⟨s.mis, hmn, hmm, hplP.symm⟩
end Go.Fw
