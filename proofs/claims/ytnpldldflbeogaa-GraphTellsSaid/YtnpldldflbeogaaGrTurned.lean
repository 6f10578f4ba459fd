import Derived.Test.YtnpldldflbeogaaGrOrderLaw
namespace Go.Fw
open Go.Proofs

theorem rch_congr {n : Nat} {E E' : Nat → List Int} (h : ∀ u v, Adj n E u v → Adj n E' u v) {u v : Nat} (hr : Rch n E u v) : Rch n E' u v := by
  induction hr with
  | refl => exact .refl _
  | step a _ ih => exact .step (h _ _ a) ih
theorem Out.congr {n : Nat} {E E' : Nat → List Int} (h : ∀ u v, Rch n E u v ↔ Rch n E' u v) {D : Nat → Prop} {l : List (List Nat)} (o : Out n E D l) : Out n E' D l := by
  have hs : ∀ u v, Scc n E u v ↔ Scc n E' u v := fun u v => by unfold Scc; rw [h, h]
  have hf : ∀ (D : Nat → Prop) i, Free n E D i ↔ Free n E' D i := fun D i => by
    unfold Free
    constructor
    · rintro ⟨a, b, c⟩; exact ⟨a, b, fun j hj hr => (c j hj ((h _ _).2 hr)).imp (h _ _).1 fun x => x⟩
    · rintro ⟨a, b, c⟩; exact ⟨a, b, fun j hj hr => (c j hj ((h _ _).1 hr)).imp (h _ _).2 fun x => x⟩
  induction o with
  | nil h1 => exact .nil fun i hi => h1 i ((hf _ i).2 hi)
  | @cons D i f r h1 h2 h3 h4 ih =>
    refine .cons (i := i) ((hf _ i).1 h1) (fun k hk hk' => h2 k hk ((hf _ k).2 hk')) (fun j hj => (h3 j hj).trans (hs i j)) ?_
    have : (fun x => D x ∨ (x < n ∧ Scc n E' i x)) = fun x => D x ∨ (x < n ∧ Scc n E i x) := by funext x; rw [hs]
    rw [this]; exact ih

theorem Rd1.frameS {m m' : Mem} {a : Option Addr} {l : List Value} {S : List Nat} (h : Rd1 m a l) (f : Fr m m' S) (hS : ∀ p, a = some p → p.block ∉ S) : Rd1 m' a l := by
  rcases h with rfl | ⟨b, o, rfl, hc⟩
  · exact .inl rfl
  · exact .inr ⟨b, o, rfl, fun i v hv => f.cellAt (hc i v hv) (hS _ rfl)⟩
theorem ldCells_rd {m : Mem} {b o : Nat} : ∀ (l : List Value) (i : Nat), (∀ j v, l[j]? = some v → cellAt (m b) (o + (i + j)) = some v) → ldCells m ⟨b, o, none⟩ i l.length = some l
  | [], i, _ => rfl
  | v :: r, i, h => by
    have h0 := h 0 v rfl
    rw [List.length_cons, ldCells, add_mk, cell_mk, show o + i = o + (i + 0) from rfl, h0, Option.bind_some, ldCells_rd r (i + 1) fun j w hj => by have := h (j + 1) w (by simpa using hj); rwa [show i + 1 + j = i + (j + 1) from by omega]]
    rfl
theorem Rd1.ldS {m : Mem} {a : Option Addr} {l : List Value} (h : Rd1 m a l) : ldS m a l.length = some l := by
  rcases h with rfl | ⟨b, o, rfl, hc⟩
  · cases a <;> rfl
  · simp only [Fw.ldS]
    exact ldCells_rd l 0 fun j v hj => by rw [Nat.zero_add]; exact hc j v hj
theorem Rd1.drop {m : Mem} {a : Option Addr} {l : List Value} (h : Rd1 m a l) {k c : Nat} (hk : k ≤ l.length) (hc : l.length ≤ c) : Rd1 m (if c = k then a else a.map (·.add k)) (l.drop k) := by
  split
  · exact .inl (List.drop_eq_nil_of_le (by omega))
  · rcases h with rfl | ⟨b, o, rfl, hc⟩
    · exact .inl (by simp)
    · refine .inr ⟨b, o + k, by simp [add_mk], fun i v hv => ?_⟩
      rw [Nat.add_assoc]
      refine hc (k + i) v ?_
      rwa [List.getElem?_drop] at hv

/-- the rows that were turned -/
structure Tn (m m' : Mem) (i : Nat) (tv : Value) (E E2 : Nat → List Int) : Prop where
  own : ∃ xs, Own m' 26 1 tv i xs ∧ ∀ u, u < i → ∃ a c, xs[u]? = some (.slice a (E2 u).length c) ∧ Rd1 m' a (ints (E2 u)) ∧ ∀ p, a = some p → p.block ∉ blkOf tv ∧ m' p.block ≠ none
  mem : ∀ u, u < i → (∀ y, y ∈ E2 u ↔ y ∈ E u) ∧ (E2 u).length ≤ 60
  fr : Fr m m' []
  fresh : ∀ b ∈ blkOf tv, m b = none
  h24 : i ≤ 24

set_option maxHeartbeats 4000000 in
theorem turned_spec (m : Mem) (n : Nat) (ev : Value) (E0 : Nat → List Int) (hg : ARows m n ev E0) (t : Int) : MC Try.prog 6 [ev, .int .i64 t] m fun v m' => v = .bool true ∧ Fr m m' [] := by
  refine MC_start Try.func6 turned_ok (by kernel_rfl) (by simp [Try.f6]) ?_
  simp (disch := omega) only [go_sem]
  refine call_with (small_spec m n ev E0 hg) ?_
  rintro v m1 ⟨b, k, f, E, hk, rfl, sm⟩
  simp (disch := omega) only [go_sem]
  refine loopQ_intro (fun g Ev m' => ∃ i tv E2, i ≤ k ∧ g = k - i ∧ Ev = [(1, .int .i64 t), (5, .slice (some ⟨b, 0, none⟩) k k), (6, tv), (7, .int .i64 (i : Nat))] ∧ Tn m1 m' i tv E E2) k rfl
    ⟨0, _, fun _ => [], by omega, by omega, rfl, ⟨⟨[], Own.nil _ _ _, by omega⟩, by omega, Fr.refl _ _, by intro b hb; simp [blkOf, only, Env.get] at hb, by omega⟩⟩ ?_
  rintro g Ev m2 ⟨i, tv, E2, hi, rfl, rfl, tn⟩
  show wpN Try.prog (.seq (.seq turned_r4 (.cond (.slot 19) .skip (.exit 0))) (.seq (.block 1 (.seq turned_r5 (.seq (.seq turned_r6 (.cond (.slot 27) turned_r7 .skip)) (.seq turned_r8 turned_r9)))) turned_r10)) _ _ _
  generalize hC : NC.seq turned_r8 turned_r9 = C
  simp (disch := omega) only [go_sem]
  refine condB_dec (fun hik => ?_) (fun hik => ?_)
  · have hik' : i < k := by omega
    obtain ⟨ra, rc, hf, hrc, hr30, hrr⟩ := sm.row i hik'
    have hu2 : cellAt (m2 b) i = some (.slice ra (E i).length rc) := by
      rw [tn.fr.get0 sm.hrow, cellAt_cells, List.getElem?_toArray, rv_get _ _ _ hik', hf]
    have hb2 : m2 b ≠ none := by rw [tn.fr.get0 sm.hrow]; exact Option.some_ne_none _
    -- behind the choice of k
    have key : ∀ (q : Nat) (Ev : Env), q ≤ (E i).length → Ev.has 1 = true → Ev.has 5 = true → Ev.has 6 = true → Ev.has 7 = true → Ev.has 8 = true → Ev.get 1 = .int .i64 t → Ev.get 5 = .slice (some ⟨b, 0, none⟩) k k → Ev.get 6 = tv → Ev.get 7 = .int .i64 (i : Nat) → Ev.get 8 = .int .i64 (q : Nat) →
        ∀ Q : Exit → Env → Mem → Prop, (∀ m' tv' E2', Tn m1 m' (i + 1) tv' E E2' → Q .normal [(1, .int .i64 t), (5, .slice (some ⟨b, 0, none⟩) k k), (6, tv'), (7, .int .i64 (i : Nat))] m') → wpN Try.prog C Q Ev m2 := by
      subst hC
      intro q Ev hq a1 a5 a6 a7 a8 e1 e5 e6 e7 e8 Q hQ
      simp (disch := omega) only [go_sem, a1, a5, a6, a7, a8, e1, e5, e6, e7, e8, hu2]
      rw [cutS_in 1 ra rc q (E i).length ⟨by omega, by omega, by omega⟩]
      simp only [Int.toNat_natCast, Nat.mul_one]
      have hrr2 := (hrr.frame sm.fr).frame tn.fr
      have hlen : (ints (E i)).length = (E i).length := by simp [ints]
      have hdr := hrr2.drop (k := q) (c := rc) (by omega) (by omega)
      generalize hra : (if rc = q then ra else ra.map (·.add q)) = ra2 at hdr ⊢
      clear hra
      simp (disch := omega) only [go_sem, a1, a5, a6, a7, a8, e1, e5, e6, e7, e8, hu2]
      refine newP_intro fun b0 hb0 => ?_
      have hbb0 : b ≠ b0 := fun e => by subst e; exact hb2 hb0
      simp (disch := omega) only [go_sem, a1, a5, a6, a7, a8, e1, e5, e6, e7, e8, hu2]
      generalize hm3 : Mem.set m2 b0 _ = m3
      have f3 : Fr m2 m3 [] := by rw [← hm3]; exact Fr.new _ hb0
      have ow0 : Own m3 3 1 (.slice (some ⟨b0, 0, none⟩) 0 0) 0 [] := by rw [← hm3]; exact Own.new rfl
      have hu3 := f3.cellAt hu2 (by simp)
      clear hm3
      have hnd : ∀ v ∈ (ints (E i)).drop q, v.oneCell' = true := fun v hv => by
        have := List.mem_of_mem_drop hv
        simp only [ints, List.mem_map] at this
        obtain ⟨y, _, rfl⟩ := this; rfl
      have hdl : ((ints (E i)).drop q).length = (E i).length - q := by rw [List.length_drop, hlen]
      refine app_own (n := 0) (k := (E i).length - q) (news := (ints (E i)).drop q) ow0 rfl ?_ (by rw [hdl]; omega) hnd rfl (by omega) (by omega) ?_
      · have := (hdr.frame f3).ldS
        rwa [hdl, ← Nat.mul_one ((E i).length - q)] at this
      intro w4 m4 ow4 f4 hbk4
      have f24 : Fr m2 m4 [] := f3.trans f4 (fun x hx hx2 => by simp only [blkOf, List.mem_singleton] at hx; subst hx; exact (hx2 hb0).elim)
      have hu4 := f24.cellAt hu2 (by simp)
      have hbk4' : ∀ x ∈ blkOf w4, m2 x = none := fun x hx => by
        rcases hbk4 x hx with h | h
        · simp only [blkOf, List.mem_singleton] at h; subst h; exact hb0
        · cases h' : m2 x with
          | none => rfl
          | some o => rw [f3.get0 h'] at h; cases h
      simp (disch := omega) only [go_sem, a1, a5, a6, a7, a8, e1, e5, e6, e7, e8, hu4]
      refine app_own (k := (E i).length) (news := ints (E i)) ow4 rfl ?_ (by rw [hlen]; omega) (fun v hv => by
        simp only [ints, List.mem_map] at hv
        obtain ⟨y, _, rfl⟩ := hv; rfl) rfl (by omega) (by omega) ?_
      · have := (hrr2.frame f24).ldS
        rwa [hlen, ← Nat.mul_one (E i).length] at this
      intro w5 m5 ow5 f5 hbk5
      have f25 : Fr m2 m5 [] := f24.trans f5 (fun x hx hx2 => (hx2 (hbk4' x hx)).elim)
      have hbk5' : ∀ x ∈ blkOf w5, m2 x = none := fun x hx => by
        rcases hbk5 x hx with h | h
        · exact hbk4' x h
        · cases h' : m2 x with
          | none => rfl
          | some o => rw [f24.get0 h'] at h; cases h
      obtain ⟨w5a, w5c, rfl⟩ := ow5.form
      simp (disch := omega) only [go_sem, a1, a5, a6, a7, a8, e1, e5, e6, e7, e8]
      refine newP_intro fun bn hbn => ?_
      have hmn : ∀ x, m5 x = none → m2 x = none := fun x hx => by
        cases h' : m2 x with
        | none => rfl
        | some o => rw [f25.get0 h'] at hx; cases hx
      simp (disch := omega) only [go_sem]
      generalize hm6 : Mem.set m5 bn _ = m6
      have f6 : Fr m5 m6 [] := by rw [← hm6]; exact Fr.new _ hbn
      have hn6 : m6 bn = some (.cells [Value.slice w5a ((E i).length - q + (E i).length) w5c].toArray 26 (0, 0)) := by rw [← hm6]; exact set_self _ _
      have hmn6 : ∀ x, m6 x = none → m5 x = none := fun x hx => by
        cases h' : m5 x with
        | none => rfl
        | some o => rw [f6.get0 h'] at hx; cases hx
      clear hm6
      obtain ⟨xs, owT, hxs⟩ := tn.own
      have f26 := f25.trans0 f6
      have h24 := tn.h24
      refine app_own (n := i) (k := 1) (c := 1) (news := [.slice w5a ((E i).length - q + (E i).length) w5c]) (owT.frame0 f26) rfl ?_ rfl (by simp [Value.oneCell']) rfl (by omega) (by omega) ?_
      · simp (disch := omega) only [go_sem, ldS, hn6]
      intro w7 m7 ow7 f7 hbk7
      simp (disch := omega) only [go_sem]
      have hxl : xs.length = i := by have := owT.1; omega
      have htv : ∀ x ∈ blkOf tv, m2 x ≠ none := owT.there
      have hw7 : ∀ x ∈ blkOf w7, x ∈ blkOf tv ∨ m6 x = none := hbk7
      have f27 : Fr m2 m7 (blkOf tv) := (f26.sub (by simp)).transS f7
      refine hQ m7 w7 (Up E2 i ((E i).drop q ++ E i)) ⟨⟨_, ow7, fun u hu => ?_⟩, fun u hu => ?_, ?_, fun x hx => ?_, by omega⟩
      · by_cases e : u = i
        · subst e
          rw [Up_self]
          obtain ⟨a', c', e', hr'⟩ := ow5.rd
          cases e'
          refine ⟨w5a, w5c, ?_, ?_, fun p hp => ?_⟩
          · rw [List.getElem?_append_right (by omega), hxl]
            simp
          · have : ints ((E u).drop q ++ E u) = (([] : List Value) ++ (ints (E u)).drop q) ++ ints (E u) := by simp [ints]
            rw [this]
            refine (hr'.frame f6).frameS f7 fun p hp hpt => ?_
            exact htv _ hpt (hbk5' _ (by rw [hp]; simp [blkOf]))
          · have h5 : p.block ∈ blkOf (.slice w5a ((E u).length - q + (E u).length) w5c) := by rw [hp]; simp [blkOf]
            have h52 := hbk5' p.block (by rw [hp]; simp [blkOf])
            have h55 := ow5.there p.block (by rw [hp]; simp [blkOf])
            have h56 := f6.some h55 (by simp)
            refine ⟨fun h => ?_, f7.some h56 fun h => htv _ h h52⟩
            rcases hw7 _ h with h | h
            · exact htv _ h h52
            · exact h56 h
        · rw [Up_ne _ e]
          obtain ⟨a', c', e', hr', hp'⟩ := hxs u (by omega)
          refine ⟨a', c', ?_, hr'.frameS f27 (fun p hp => (hp' p hp).1), fun p hp => ?_⟩
          · rw [List.getElem?_append_left (by omega)]; exact e'
          · obtain ⟨h1, h2⟩ := hp' p hp
            refine ⟨fun h => ?_, f27.some h2 h1⟩
            rcases hw7 _ h with h | h
            · exact h1 h
            · exact h2 (hmn _ (hmn6 _ h))
      · by_cases e : u = i
        · subst e
          rw [Up_self]
          refine ⟨fun y => ?_, ?_⟩
          · rw [List.mem_append]
            exact ⟨fun h => h.elim List.mem_of_mem_drop (fun h => h), .inr⟩
          · simp only [List.length_append, List.length_drop]; omega
        · rw [Up_ne _ e]; exact tn.mem u (by omega)
      · exact (tn.fr.trans0 f26).trans f7 (fun x hx hne => (hne (tn.fresh x hx)).elim)
      · rcases hw7 x hx with h | h
        · exact tn.fresh x h
        · cases h' : m1 x with
          | none => rfl
          | some o =>
            have := hmn x (hmn6 x h)
            rw [tn.fr.get0 h'] at this; cases this
    simp (disch := omega) only [go_sem, hu2]
    refine condB_dec (fun h0 => ?_) (fun h0 => ?_)
    · simp (disch := omega) only [go_sem, hu2]
      refine call_with (within_spec m2 t 0 (E i).length (by omega) (by omega) (by omega)) ?_
      rintro v m3 ⟨⟨q, rfl, hq1, hq2⟩, rfl⟩
      simp (disch := omega) only [go_sem, hu2]
      refine key q _ (by omega) rfl rfl rfl rfl rfl rfl rfl rfl rfl rfl _ fun m' tv' E2' tn' => ?_
      simp (disch := omega) only [go_sem]
      exact handN_intro (k - (i + 1)) (by omega) ⟨i + 1, tv', E2', by omega, rfl, rfl, tn'⟩
    · refine key 0 _ (by omega) rfl rfl rfl rfl rfl rfl rfl rfl rfl rfl _ fun m' tv' E2' tn' => ?_
      simp (disch := omega) only [go_sem]
      exact handN_intro (k - (i + 1)) (by omega) ⟨i + 1, tv', E2', by omega, rfl, rfl, tn'⟩
  · have hik' : i = k := by omega
    subst hik'
    obtain ⟨xs, owT, hxs⟩ := tn.own
    have hxl : xs.length = i := by have := owT.1; omega
    have hg1 : GRd m2 i (.slice (some ⟨b, 0, none⟩) i i) E := sm.grd.frame tn.fr
    have hg2 : GRd m2 i tv E2 := by
      obtain ⟨a, c, rfl, hr⟩ := owT.rd
      refine ⟨a, c, xs, rfl, hxl, hr, fun v hv => ?_⟩
      obtain ⟨a', c', h1, h2, _⟩ := hxs v hv
      exact ⟨by have := (tn.mem v hv).2; omega, a', c', h1, h2⟩
    have f02 : Fr m m2 [] := sm.fr.trans0 tn.fr
    simp (disch := omega) only [go_sem]
    refine call_with (parts_spec m2 i _ E (by omega) hg1) ?_
    rintro v m3 ⟨wa, l1, rfl, out1, rd1, f3⟩
    simp (disch := omega) only [go_sem]
    refine call_with (parts_spec m3 i _ E2 (by omega) (hg2.frame f3)) ?_
    rintro v m4 ⟨wb, l2, rfl, out2, rd2, f4⟩
    have e12 : l1 = l2 := by
      have ha : ∀ u v, Adj i E u v ↔ Adj i E2 u v := fun u v =>
        ⟨fun ⟨h1, h2, h3⟩ => ⟨h1, h2, ((tn.mem u h1).1 _).2 h3⟩, fun ⟨h1, h2, h3⟩ => ⟨h1, h2, ((tn.mem u h1).1 _).1 h3⟩⟩
      exact (out1.congr fun u v => ⟨rch_congr fun u v => (ha u v).1, rch_congr fun u v => (ha u v).2⟩).det out2
    subst e12
    have hll := out1.len
    have hlp : ∀ x ∈ l1, x.length < 2 ^ 40 := fun x hx => by
      obtain ⟨p, hp, rfl⟩ := List.mem_iff_getElem.1 hx
      have := (out1.ans0.lt hp).2.2
      omega
    simp (disch := omega) only [go_sem, decide_true, if_true]
    refine call_with (same2_spec _ _ l1 l1 m4 (rd1.rd.frame0 f4) rd2.rd (by omega) (by omega) hlp hlp) ?_
    rintro v m5 ⟨rfl, rfl⟩
    simp (disch := omega) only [go_sem, decide_true, if_true]
    refine call_with (runs_spec _) ?_
    rintro r m6 ⟨rfl, f6⟩
    simp (disch := omega) only [go_sem, decide_true, if_true]
    exact post_intro ⟨rfl, ((f02.trans0 f3).trans0 f4).trans0 f6⟩
end Go.Fw
