import Derived.Test.YtnpldldflbeogaaGrReach
namespace Go.Fw
open Go.Proofs

/-- rows that were put out, and can be read; none lies in X -/
structure Outs (m : Mem) (ov : Value) (l : List (List Nat)) (X : List Nat) : Prop where
  own : ∃ xs, Own m 26 1 ov l.length xs ∧ ∀ p (hp : p < l.length), ∃ a c, xs[p]? = some (.slice a l[p].length c) ∧ Rd1 m a (nats l[p]) ∧ ∀ q, a = some q → q.block ∉ blkOf ov ∧ m q.block ≠ none ∧ q.block ∉ X
  nx : ∀ b ∈ blkOf ov, b ∉ X
theorem Outs.rd {m : Mem} {ov : Value} {l : List (List Nat)} {X : List Nat} (h : Outs m ov l X) : RdRows m ov l := by
  obtain ⟨xs, ow, hr⟩ := h.own
  have hxl : xs.length = l.length := by have := ow.1; omega
  obtain ⟨a, c, rfl, hrd⟩ := ow.rd
  refine ⟨a, c, xs, rfl, hxl, hrd, fun k r hk => ?_⟩
  obtain ⟨hk', e⟩ := List.getElem?_eq_some_iff.1 hk
  subst e
  obtain ⟨a', c', h1, h2, _⟩ := hr k hk'
  exact ⟨a', c', h1, h2⟩
theorem Outs.frame {m m' : Mem} {ov : Value} {l : List (List Nat)} {S X : List Nat} (h : Outs m ov l X) (f : Fr m m' S) (hS : ∀ b ∈ S, b ∈ X) : Outs m' ov l X := by
  obtain ⟨xs, ow, hr⟩ := h.own
  refine ⟨⟨xs, ow.frame f (fun b hb hbS => h.nx b hb (hS b hbS)), fun p hp => ?_⟩, h.nx⟩
  obtain ⟨a, c, h1, h2, h3⟩ := hr p hp
  have hne : ∀ q, a = some q → q.block ∉ S := fun q hq hqS => (h3 q hq).2.2 (hS _ hqS)
  exact ⟨a, c, h1, h2.frameS f hne, fun q hq => ⟨(h3 q hq).1, f.some (h3 q hq).2.1 (hne q hq), (h3 q hq).2.2⟩⟩
/-- a row is put behind -/
theorem Outs.push {m m1 m' : Mem} {ov w : Value} {l : List (List Nat)} {X : List Nat} (h : Outs m ov l X) {a : Option Addr} {c : Nat} {r : List Nat} (hr : Rd1 m a (nats r)) (ha : ∀ q, a = some q → q.block ∉ blkOf ov ∧ m q.block ≠ none ∧ q.block ∉ X)
    (f1 : Fr m m1 []) (hm1 : ∀ x, m1 x = none → m x = none) (hX : ∀ x ∈ X, m x ≠ none)
    (happ : ∀ xs, Own m 26 1 ov l.length xs → Own m' 26 1 w (l.length + 1) (xs ++ [.slice a r.length c])) (f2 : Fr m1 m' (blkOf ov)) (hw : ∀ b ∈ blkOf w, b ∈ blkOf ov ∨ m1 b = none) : Outs m' w (l ++ [r]) X := by
  obtain ⟨xs, ow, hrs⟩ := h.own
  have hxl : xs.length = l.length := by have := ow.1; omega
  have f : Fr m m' (blkOf ov) := (f1.sub (by simp)).transS f2
  have keep : ∀ q : Addr, q.block ∉ blkOf ov → m q.block ≠ none → q.block ∉ X → q.block ∉ blkOf w ∧ m' q.block ≠ none ∧ q.block ∉ X := fun q h1 h2 h3 => by
    refine ⟨fun hq => ?_, f.some h2 h1, h3⟩
    rcases hw _ hq with h | h
    · exact h1 h
    · exact h2 (hm1 _ h)
  refine ⟨⟨_, by simpa using happ xs ow, fun p hp => ?_⟩, fun b hb => ?_⟩
  · by_cases e : p < l.length
    · obtain ⟨a', c', h1, h2, h3⟩ := hrs p e
      refine ⟨a', c', ?_, ?_, fun q hq => keep q (h3 q hq).1 (h3 q hq).2.1 (h3 q hq).2.2⟩
      · rw [List.getElem?_append_left (by omega), h1, List.getElem_append_left e]
      · rw [List.getElem_append_left e]
        exact h2.frameS f fun q hq => (h3 q hq).1
    · have hpl : p = l.length := by simp at hp; omega
      subst hpl
      refine ⟨a, c, ?_, ?_, fun q hq => keep q (ha q hq).1 (ha q hq).2.1 (ha q hq).2.2⟩
      · rw [List.getElem?_append_right (by omega)]
        simp [hxl]
      · simp only [List.getElem_append_right (Nat.le_refl _), Nat.sub_self, List.getElem_cons_zero]
        exact hr.frameS f fun q hq => (ha q hq).1
  · rcases hw b hb with h1 | h1
    · exact h.nx b h1
    · exact fun hx => hX b hx (hm1 _ h1)

def fB (k : Nat) (R : Nat → Nat → Bool) (D : Nat → Bool) (i : Nat) : Bool := !D i && (List.range k).all fun j => !R i j || R j i || D j
theorem fB_free {k : Nat} {E : Nat → List Int} {R : Nat → Nat → Bool} (hR : ∀ u v, u < k → v < k → (R u v = true ↔ Rch k E u v)) (D : Nat → Bool) {i : Nat} (hi : i < k) : fB k R D i = true ↔ Free k E (fun x => D x = true) i := by
  simp only [fB, Bool.and_eq_true, List.all_eq_true, List.mem_range, Bool.or_eq_true, Bool.not_eq_true', Free]
  constructor
  · rintro ⟨h1, h2⟩
    refine ⟨hi, by simp [h1], fun j hj hr => ?_⟩
    rcases h2 j hj with (h | h) | h
    · rw [(hR i j hi hj).2 hr] at h; cases h
    · exact .inl ((hR j i hj hi).1 h)
    · exact .inr h
  · rintro ⟨_, h1, h2⟩
    refine ⟨by simpa using h1, fun j hj => ?_⟩
    cases hr : R i j with
    | false => exact .inl (.inl rfl)
    | true =>
      rcases h2 j hj ((hR i j hi hj).1 hr) with h | h
      · exact .inl (.inr ((hR j i hj hi).2 h))
      · exact .inr h

theorem un_lt {D D2 : Nat → Bool} {q : Nat} (h : ∀ v, D v = true → D2 v = true) (h1 : D q = false) (h2 : D2 q = true) : ∀ {n}, q < n → un D2 n < un D n := by
  have le : ∀ n, un D2 n ≤ un D n := by
    intro n
    induction n with
    | zero => simp [un]
    | succ n ih =>
      simp only [un]
      cases hd : D n with
      | true => rw [h n hd]; simpa using ih
      | false => cases D2 n <;> simp <;> omega
  intro n
  induction n with
  | zero => intro h; omega
  | succ n ih =>
    intro hq
    simp only [un]
    by_cases e : q = n
    · subst e
      rw [h1, h2]
      have := le q
      simp; omega
    · have := ih (by omega)
      cases hd : D n with
      | true => rw [h n hd]; simpa using this
      | false => cases D2 n <;> simp <;> omega
theorem Own.uniq {m : Mem} {t : TypeId} {size n : Nat} {v : Value} {xs ys : List Value} (h : Own m t size v n xs) (h' : Own m t size v n ys) : xs = ys := by
  obtain ⟨h1, h2⟩ := h
  obtain ⟨h3, h4⟩ := h'
  rcases h2 with ⟨rfl, rfl⟩ | ⟨b, cap, tail, rfl, hb, hl⟩
  · have : xs = [] := List.eq_nil_of_length_eq_zero (by simpa using h1)
    have : ys = [] := List.eq_nil_of_length_eq_zero (by simpa using h3)
    simp_all
  · rcases h4 with ⟨e, _⟩ | ⟨b', cap', tail', e, hb', hl'⟩
    · cases e
    · cases e
      rw [hb] at hb'
      simp only [Option.some.injEq, Obj.cells.injEq] at hb'
      exact (List.append_inj (congrArg Array.toList hb'.1) (by omega)).1

set_option maxHeartbeats 8000000 in
theorem refparts_spec (m : Mem) (k : Nat) (ev : Value) (E : Nat → List Int) (hk : k ≤ 512) (hg : GRd m k ev E) :
    MC Try.prog 14 [ev] m fun w m' => ∃ l, Out k E (fun _ => False) l ∧ RdRows m' w l ∧ Fr m m' [] := by
  obtain ⟨ea, ec, L, rfl, hL, hLr, hLv⟩ := hg
  refine MC_start Try.func14 refparts_ok (by kernel_rfl) (by simp [Try.f14]) ?_
  simp (disch := omega) only [go_sem]
  refine call_with (reach_spec m k _ E hk ⟨ea, ec, L, rfl, hL, hLr, hLv⟩) ?_
  rintro v m1 ⟨br, fr, R, rfl, ⟨hr1, _, hrows⟩, hR, f1⟩
  have hread : ∀ m' : Mem, Fr m1 m' [] → ∀ u v, u < k → v < k → ∃ g, cellAt (m' br) u = some (.slice (some ⟨g, 0, none⟩) k k) ∧ cellAt (m' g) v = some (.bool (R u v)) := fun m' f u v hu hv => by
    obtain ⟨g, h1, h2, _, _⟩ := hrows u hu
    refine ⟨g, ?_, ?_⟩
    · rw [f.get0 hr1, cellAt_cells, List.getElem?_toArray, rv_get _ _ _ hu, h1]
    · rw [f.get0 h2, cellAt_cells, List.getElem?_toArray, rb_get _ _ _ hv]
  simp (disch := omega) only [go_sem]
  refine newP_intro fun bd hbd => ?_
  simp (disch := omega) only [go_sem]
  refine loopQ_intro (fun g Ev m' => ∃ (D : Nat → Bool) (l : List (List Nat)) (ov : Value), g = un D k ∧ Ev = [(3, .slice (some ⟨br, 0, none⟩) k k), (4, .int .i64 (k : Nat)), (5, .slice (some ⟨bd, 0, none⟩) k k), (6, ov)] ∧
    m' bd = some (.cells (rb k D).toArray 4 (0, 0)) ∧ Outs m' ov l [bd] ∧ (∀ b ∈ blkOf ov, m1 b = none) ∧ Fr m1 m' [] ∧ l.length + un D k ≤ k ∧
    ∀ r, Out k E (fun x => D x = true) r → Out k E (fun _ => False) (l ++ r)) (un (fun _ => false) k) rfl ⟨fun _ => false, [], _, rfl, rfl, by simp only [set_self], ⟨⟨[], Own.nil _ _ _, by simp⟩, by intro b hb; simp [blkOf, only, Env.get] at hb⟩, by intro b hb; simp [blkOf, only, Env.get] at hb, Fr.new [] hbd, by have := un_le (fun _ => false) k; simpa using this, fun r hr => by simpa using hr⟩ ?_
  rintro g Ev m2 ⟨D, l, ov, rfl, rfl, hd2, ho2, hb2, f2, hroom, hpre⟩
  simp (disch := omega) only [go_sem]
  refine loopQ_intro (fun g Ev m' => ∃ (i : Nat) (nx : Int), i ≤ k ∧ g = k - i ∧ Ev = [(3, .slice (some ⟨br, 0, none⟩) k k), (4, .int .i64 (k : Nat)), (5, .slice (some ⟨bd, 0, none⟩) k k), (6, ov), (7, .int .i64 nx), (8, .int .i64 (i : Nat))] ∧ m' = m2 ∧
    ((nx = -1 ∧ ∀ u, u < i → fB k R D u = false) ∨ (∃ q : Nat, nx = q ∧ q < k ∧ fB k R D q = true ∧ ∀ u, u < q → fB k R D u = false))) k rfl ⟨0, -1, by omega, by omega, rfl, rfl, .inl ⟨rfl, by omega⟩⟩ ?_
  rintro g Ev m' ⟨i, nx, hi, rfl, rfl, rfl, hnx⟩
  by_cases hgo : i < k ∧ nx < 0
  · obtain ⟨rfl, hno⟩ : nx = -1 ∧ ∀ u, u < i → fB k R D u = false := by
      rcases hnx with h | ⟨q, h, _⟩
      · exact h
      · omega
    simp (disch := omega) only [go_sem, dec_t, if_true, hd2]
    cases hDi : D i with
    | true =>
      simp (disch := omega) only [go_sem]
      refine handN_intro (k - (i + 1)) (by omega) ⟨i + 1, -1, by omega, rfl, rfl, rfl, .inl ⟨rfl, fun u hu => ?_⟩⟩
      by_cases e : u = i
      · subst e; simp [fB, hDi]
      · exact hno u (by omega)
    | false =>
      simp (disch := omega) only [go_sem]
      refine loopQ_intro (fun g Ev m2 => ∃ j, j ≤ k ∧ g = k - j ∧ Ev = [(3, .slice (some ⟨br, 0, none⟩) k k), (4, .int .i64 (k : Nat)), (5, .slice (some ⟨bd, 0, none⟩) k k), (6, ov), (7, .int .i64 (-1)), (8, .int .i64 (i : Nat)), (9, .bool ((List.range j).all fun j => !R i j || R j i || D j)), (10, .int .i64 (j : Nat))] ∧ m2 = m') k rfl ⟨0, by omega, by omega, rfl, rfl⟩ ?_
      rintro g Ev m2 ⟨j, hj, rfl, rfl, rfl⟩
      simp (disch := omega) only [go_sem]
      refine condB_dec (fun hjk => ?_) (fun hjk => ?_)
      · have hjk' : j < k := by omega
        obtain ⟨g1, h1, h2⟩ := hread m2 f2 i j hgo.1 hjk'
        obtain ⟨g2, h3, h4⟩ := hread m2 f2 j i hjk' hgo.1
        have fin : ∀ x, x = ((List.range (j + 1)).all fun j => !R i j || R j i || D j) → x = (((List.range j).all fun j => !R i j || R j i || D j) && (!R i j || R j i || D j)) := fun x hx => by
          rw [hx, List.range_succ, List.all_append]; simp
        cases hfr : (List.range j).all fun j => !R i j || R j i || D j with
        | false =>
          simp (disch := omega) only [go_sem, undef, if_false, Bool.false_eq_true]
          refine handN_intro (k - (j + 1)) (by omega) ⟨j + 1, by omega, rfl, ?_, rfl⟩
          have := fin _ rfl
          rw [hfr, Bool.false_and] at this
          rw [this]; rfl
        | true =>
          rw [hfr] at fin
          simp only [Bool.true_and] at fin
          cases r1 : R i j <;> cases r2 : R j i <;> cases r3 : D j <;>
            (rw [r1] at h2 fin; rw [r2] at h4 fin; rw [r3] at fin
             simp (disch := omega) only [go_sem, h1, h2, h3, h4, hd2, r3, undef, if_false, if_true, Bool.false_eq_true, Bool.not_true, Bool.not_false]
             refine handN_intro (k - (j + 1)) (by omega) ⟨j + 1, by omega, rfl, ?_, rfl⟩
             have := fin _ rfl
             rw [this]; rfl)
      · have hjk' : j = k := by omega
        subst hjk'
        cases hfr : (List.range j).all fun j => !R i j || R j i || D j with
        | false =>
          simp (disch := omega) only [go_sem]
          refine handN_intro (j - (i + 1)) (by omega) ⟨i + 1, -1, by omega, rfl, rfl, rfl, .inl ⟨rfl, fun u hu => ?_⟩⟩
          by_cases e : u = i
          · subst e; simp only [fB, hDi, hfr]; rfl
          · exact hno u (by omega)
        | true =>
          simp (disch := omega) only [go_sem]
          refine handN_intro (j - (i + 1)) (by omega) ⟨i + 1, i, by omega, rfl, rfl, rfl, .inr ⟨i, rfl, hgo.1, by simp only [fB, hDi, hfr]; rfl, hno⟩⟩
  · rcases hnx with ⟨rfl, hno⟩ | ⟨q, rfl, hqk, hqf, hqmin⟩
    · -- none is free
      have hik : i = k := by omega
      subst hik
      simp (disch := omega) only [go_sem, dec_f, dec_t, undef, if_false, Bool.false_eq_true]
      have hout := hpre [] (.nil fun u hu => by
        have := (fB_free hR D hu.1).2 hu
        rw [hno u hu.1] at this; cases this)
      rw [List.append_nil] at hout
      exact post_intro ⟨l, hout, ho2.rd, f1.trans0 f2⟩
    · have hqfree := (fB_free hR D hqk).1 hqf
      have hDq : D q = false := by simpa using hqfree.2.1
      have hll : l.length ≤ 512 := by omega
      rcases Nat.lt_or_ge i k with hik | hik <;>
      (simp (disch := omega) only [go_sem, dec_f, dec_t, undef, if_false, if_true, Bool.false_eq_true]
       refine loopQ_intro (fun g Ev m2 => ∃ (j : Nat) (pv : Value) (D2 : Nat → Bool), j ≤ k ∧ g = k - j ∧ Ev = [(3, .slice (some ⟨br, 0, none⟩) k k), (4, .int .i64 (k : Nat)), (5, .slice (some ⟨bd, 0, none⟩) k k), (6, ov), (7, .int .i64 (q : Nat)), (11, pv), (12, .int .i64 (j : Nat))] ∧
         m2 bd = some (.cells (rb k D2).toArray 4 (0, 0)) ∧ Fr m' m2 [bd] ∧ (∃ len, Own m2 3 1 pv len (nats ((List.range j).filter fun v => R q v && R v q)) ∧ len = ((List.range j).filter fun v => R q v && R v q).length) ∧ (∀ b ∈ blkOf pv, m' b = none) ∧
         (∀ v, D2 v = (D v || (decide (v < j) && (R q v && R v q))))) k rfl ⟨0, _, D, by omega, by omega, rfl, hd2, Fr.refl _ _, ⟨0, by simpa [nats, only, Env.get] using Own.nil m' 3 1, by simp⟩, by intro b hb; simp [blkOf, only, Env.get] at hb, by simp⟩ ?_
       rintro g Ev m2 ⟨j, pv, D2, hj, rfl, rfl, hd3, f3, ⟨len, hpo, hlen⟩, hpb, hD2⟩
       have hbd0 : m' bd ≠ none := by rw [hd2]; exact Option.some_ne_none _
       have f13 : Fr m1 m2 [] := f2.trans f3 (fun x hx hx0 => by simp only [List.mem_singleton] at hx; subst hx; exact (hx0 hbd).elim)
       simp (disch := omega) only [go_sem]
       refine condB_dec (fun hjk => ?_) (fun hjk => ?_)
       · have hjk' : j < k := by omega
         obtain ⟨g1, h1, h2⟩ := hread m2 f13 q j hqk hjk'
         obtain ⟨g2, h3, h4⟩ := hread m2 f13 j q hjk' hqk
         have hlen2 : len ≤ 512 := by
           have := List.length_filter_le (fun v => R q v && R v q) (List.range j)
           rw [List.length_range] at this; omega
         have hno : (R q j && R j q) = false → ∀ v, D2 v = (D v || (decide (v < j + 1) && (R q v && R v q))) := fun h v => by
           rw [hD2 v]
           by_cases e : v = j
           · subst e; rw [h]; simp
           · have : decide (v < j + 1) = decide (v < j) := by rw [decide_eq_decide]; omega
             rw [this]
         have hflt : (R q j && R j q) = false → (List.range (j + 1)).filter (fun v => R q v && R v q) = (List.range j).filter fun v => R q v && R v q := fun h => by
           rw [List.range_succ, List.filter_append]; simp [h]
         cases r1 : R q j with
         | false =>
           rw [r1] at h2
           simp (disch := omega) only [go_sem, h1, h2, undef, if_false, Bool.false_eq_true]
           refine handN_intro (k - (j + 1)) (by omega) ⟨j + 1, pv, D2, by omega, rfl, rfl, hd3, f3, ⟨len, by rw [hflt (by rw [r1]; rfl)]; exact hpo, by rw [hflt (by rw [r1]; rfl)]; exact hlen⟩, hpb, hno (by rw [r1]; rfl)⟩
         | true =>
           cases r2 : R j q with
           | false =>
             rw [r1] at h2; rw [r2] at h4
             simp (disch := omega) only [go_sem, h1, h2, h3, h4, undef, if_true, if_false, Bool.false_eq_true]
             refine handN_intro (k - (j + 1)) (by omega) ⟨j + 1, pv, D2, by omega, rfl, rfl, hd3, f3, ⟨len, by rw [hflt (by rw [r1, r2]; rfl)]; exact hpo, by rw [hflt (by rw [r1, r2]; rfl)]; exact hlen⟩, hpb, hno (by rw [r1, r2]; rfl)⟩
           | true =>
             rw [r1] at h2; rw [r2] at h4
             simp (disch := omega) only [go_sem, h1, h2, h3, h4, undef, if_true, if_false, Bool.false_eq_true]
             refine newP_intro fun bn hbn => ?_
             have hnbd : bn ≠ bd := fun e => by rw [e, hd3] at hbn; cases hbn
             simp (disch := omega) only [go_sem]
             generalize hm3 : Mem.set m2 bn _ = m3
             have f23 : Fr m2 m3 [] := by rw [← hm3]; exact Fr.new _ hbn
             have hn3 : m3 bn = some (.cells [Value.int .i64 (j : Nat)].toArray 3 (0, 0)) := by rw [← hm3]; exact set_self _ _
             have hpbd : ∀ x ∈ blkOf pv, x ≠ bd := fun x hx e => by have := hpb x hx; rw [e] at this; exact hbd0 this
             have hmn : ∀ x, m3 x = none → m2 x = none := fun x hx => by
               cases h' : m2 x with
               | none => rfl
               | some o => rw [f23.get0 h'] at hx; cases hx
             have hm2n : ∀ x, x ≠ bd → m2 x = none → m' x = none := fun x hxb hx => by
               cases h' : m' x with
               | none => rfl
               | some o => rw [f3.get h' (by simpa using hxb)] at hx; cases hx
             clear hm3
             refine app_own (n := len) (k := 1) (c := 1) (news := [.int .i64 (j : Nat)]) (hpo.frame0 f23) rfl ?_ rfl (by simp [Value.oneCell']) rfl (by omega) (by omega) ?_
             · simp (disch := omega) only [go_sem, ldS, hn3]
             intro w4 m4 ho4 f4 hb4
             have hd4 := f4.get (f23.get0 hd3) (fun h => hpbd bd h rfl)
             have hw4 : ∀ x ∈ blkOf w4, m' x = none ∧ x ≠ bd := fun x hx => by
               rcases hb4 x hx with h | h
               · exact ⟨hpb x h, hpbd x h⟩
               · have hxb : x ≠ bd := fun e => by rw [e, f23.get0 hd3] at h; cases h
                 exact ⟨hm2n x hxb (hmn x h), hxb⟩
             have f34 : Fr m' m4 [bd] := (f3.trans (T := []) f23 (fun x hx => by cases hx)).trans f4 (fun x hx hx0 => (hx0 (hpb x hx)).elim)
             simp (disch := omega) only [go_sem, hd4]
             refine handN_intro (k - (j + 1)) (by omega) ⟨j + 1, w4, _, by omega, rfl, rfl, set_self _ _, f34.transS (Fr.set (by simp)), ⟨len + 1, ?_, ?_⟩, fun x hx => (hw4 x hx).1, fun v => ?_⟩
             · have e : (List.range (j + 1)).filter (fun v => R q v && R v q) = (List.range j).filter (fun v => R q v && R v q) ++ [j] := by
                 rw [List.range_succ, List.filter_append]; simp [r1, r2]
               rw [e]
               have := ho4.frame (m' := m4.set bd (.cells (rb k (Up D2 j true)).toArray 4)) (S := [bd]) (Fr.set (by simp)) (fun x hx => by simpa using (hw4 x hx).2)
               simpa [nats] using this
             · rw [List.range_succ, List.filter_append, List.length_append, ← hlen]; simp [r1, r2]
             · by_cases e : v = j
               · subst e; rw [Up_self]; simp [r1, r2]
               · rw [Up_ne _ e, hD2 v]
                 have : decide (v < j + 1) = decide (v < j) := by rw [decide_eq_decide]; omega
                 rw [this]
       · have hje : j = k := by omega
         subst hje
         obtain ⟨pa, pc, rfl⟩ := hpo.form
         simp (disch := omega) only [go_sem]
         refine newP_intro fun bn hbn => ?_
         simp (disch := omega) only [go_sem]
         generalize hm3 : Mem.set m2 bn _ = m3
         have f23 : Fr m2 m3 [] := by rw [← hm3]; exact Fr.new _ hbn
         have hn3 : m3 bn = some (.cells [Value.slice pa len pc].toArray 26 (0, 0)) := by rw [← hm3]; exact set_self _ _
         have hmn : ∀ x, m3 x = none → m2 x = none := fun x hx => by
           cases h' : m2 x with
           | none => rfl
           | some o => rw [f23.get0 h'] at hx; cases hx
         clear hm3
         have ho3 := ho2.frame f3 (fun _ h => h)
         obtain ⟨xs, ow, _⟩ := ho3.own
         have hobd : ∀ x ∈ blkOf ov, x ≠ bd := fun x hx => by simpa using ho3.nx x hx
         refine app_own (k := 1) (c := 1) (news := [.slice pa len pc]) (ow.frame0 f23) rfl ?_ rfl (by simp [Value.oneCell']) rfl (by omega) (by omega) ?_
         · simp (disch := omega) only [go_sem, ldS, hn3]
         intro w4 m4 ho4 f4 hb4
         simp (disch := omega) only [go_sem]
         have hunlt : un D2 j < un D j ∧ ∀ r, Out j E (fun x => D2 x = true) r → Out j E (fun _ => False) ((l ++ [(List.range j).filter fun v => R q v && R v q]) ++ r) := by
           have hqq := (hR q q hqk hqk).2 (.refl _)
           refine ⟨un_lt (fun v hv => by rw [hD2 v, hv]; rfl) hDq (by rw [hD2 q, hqq]; simp [hqk]) hqk, fun r hr => ?_⟩
           rw [List.append_assoc]
           refine hpre _ (.cons (i := q) hqfree (fun u hu hf => by have := (fB_free hR D hf.1).2 hf; rw [hqmin u hu] at this; cases this) (fun v hv => ?_) ?_)
           · simp only [Bool.and_eq_true, hR q v hqk hv, hR v q hv hqk]; exact Iff.rfl
           · have e : (fun x => D x = true ∨ (x < j ∧ Scc j E q x)) = fun x => D2 x = true := by
               funext x
               apply propext
               rw [hD2 x]
               simp only [Bool.or_eq_true, Bool.and_eq_true, decide_eq_true_eq]
               constructor
               · rintro (h | ⟨h1, h2⟩)
                 · exact .inl h
                 · exact .inr ⟨h1, (hR q x hqk h1).2 h2.1, (hR x q h1 hqk).2 h2.2⟩
               · rintro (h | ⟨h1, h2, h3⟩)
                 · exact .inl h
                 · exact .inr ⟨h1, (hR q x hqk h1).1 h2, (hR x q h1 hqk).1 h3⟩
             rw [e]; exact hr
         have hpa : ∀ x ∈ blkOf (.slice pa len pc), m' x = none ∧ m2 x ≠ none ∧ x ≠ bd := fun x hx =>
           ⟨hpb x hx, hpo.there x hx, fun e => by have := hpb x hx; rw [e] at this; exact hbd0 this⟩
         refine handN_intro (un D2 j) hunlt.1 ⟨D2, l ++ [(List.range j).filter fun v => R q v && R v q], w4, rfl, rfl, ?_, ?_, ?_, ?_, ?_, hunlt.2⟩
         · exact f4.get (f23.get0 hd3) (fun h => hobd bd h rfl)
         · obtain ⟨a', c', e', hr'⟩ := hpo.rd
           cases e'
           subst hlen
           refine ho3.push (c := pc) hr' (fun p hp => ?_) f23 hmn (fun x hx => ?_) (fun xs' ow' => ?_) f4 hb4
           · have h := hpa p.block (by rw [hp]; simp [blkOf])
             refine ⟨fun hx => ?_, h.2.1, by simpa using h.2.2⟩
             have hx' := ow.there _ hx
             obtain ⟨xs0, ow0, _⟩ := ho2.own
             exact ow0.there _ hx h.1
           · simp only [List.mem_singleton] at hx; subst hx; rw [hd3]; exact Option.some_ne_none _
           · have hxe : xs' = xs := ow'.uniq ow
             subst hxe; exact ho4
         · intro x hx
           rcases hb4 x hx with h | h
           · exact hb2 x h
           · cases h' : m1 x with
             | none => rfl
             | some o => have := hmn x h; rw [f13.get0 h'] at this; cases this
         · exact (f13.trans0 f23).trans f4 (fun x hx hx0 => (hx0 (hb2 x hx)).elim)
         · simp only [List.length_append, List.length_cons, List.length_nil]; have := hunlt.1; omega)
end Go.Fw
