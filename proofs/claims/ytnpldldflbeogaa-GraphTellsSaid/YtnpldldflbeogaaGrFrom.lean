import Derived.Test.YtnpldldflbeogaaGrLeave
namespace Go.Fw
open Go.Proofs

theorem rd_mv (v : Value) (m : Mem) : rd .mv [v] m = some v := rfl
theorem if_ft {α : Type} (a b : α) : (if false = true then a else b) = b := rfl
attribute [go_sem] rd_mv if_ft
def ints (l : List Int) : List Value := l.map (.int .i64)
def wayV : List It → List Value
  | [] => []
  | i :: r => wayV r ++ [.int .i64 (i.node : Nat), .int .i64 (i.edge : Nat)]
theorem wayV_len : ∀ p, (wayV p).length = p.length * 2
  | [] => rfl
  | i :: r => by simp [wayV, wayV_len r]; omega
theorem wayV_node (i : It) (r : List It) (tail : List Value) : (wayV (i :: r) ++ tail)[r.length * 2]? = some (.int .i64 (i.node : Nat)) := by
  rw [wayV, List.append_assoc, List.getElem?_append_right (by rw [wayV_len]; exact Nat.le_refl _), wayV_len]; simp
theorem wayV_edge (i : It) (r : List It) (tail : List Value) : (wayV (i :: r) ++ tail)[r.length * 2 + 1]? = some (.int .i64 (i.edge : Nat)) := by
  rw [wayV, List.append_assoc, List.getElem?_append_right (by rw [wayV_len]; omega), wayV_len]
  rw [show r.length * 2 + 1 - r.length * 2 = 1 from by omega]; rfl
theorem wayV_setedge (i : It) (r : List It) (tail : List Value) (k : Nat) : (wayV (i :: r) ++ tail).set (r.length * 2 + 1) (.int .i64 (k : Nat)) = wayV ({ i with edge := k } :: r) ++ tail := by
  simp only [wayV, List.append_assoc]
  rw [List.set_append_right _ _ (by rw [wayV_len]; omega), wayV_len, show r.length * 2 + 1 - r.length * 2 = 1 from by omega]
  rfl
theorem wayV_take (i : It) (r : List It) : (wayV (i :: r)).take (r.length * 2) = wayV r := by
  rw [wayV, List.take_append_of_le_length (by rw [wayV_len]; exact Nat.le_refl _), List.take_of_length_le (by rw [wayV_len]; exact Nat.le_refl _)]

/-- a graph that can be read -/
def GRd (m : Mem) (n : Nat) (ev : Value) (E : Nat → List Int) : Prop :=
  ∃ a c L, ev = .slice a n c ∧ L.length = n ∧ Rd1 m a L ∧ ∀ v, v < n → (E v).length ≤ 1048576 ∧ ∃ a' c', L[v]? = some (.slice a' (E v).length c') ∧ Rd1 m a' (ints (E v))
theorem GRd.frame {m m' : Mem} {n : Nat} {ev : Value} {E : Nat → List Int} (h : GRd m n ev E) (f : Fr m m' []) : GRd m' n ev E := by
  obtain ⟨a, c, L, h1, h2, h3, h4⟩ := h
  exact ⟨a, c, L, h1, h2, h3.frame f, fun v hv => ⟨(h4 v hv).1, let ⟨a', c', h5, h6⟩ := (h4 v hv).2; ⟨a', c', h5, h6.frame f⟩⟩⟩

structure WJ (m0 m : Mem) (n : Nat) (ev : Value) (E : Nat → List Int) (B : WB) (rv wv : Value) (s : TS) (path : List It) : Prop where
  w : WRep m n ev B rv s
  j : J n E s path
  way : Own m 47 2 wv path.length (wayV path)
  dw : ∀ b ∈ blkOf wv, b ∉ B.all rv
  fresh : ∀ b ∈ B.all rv, m0 b = none
  fw : ∀ b ∈ blkOf wv, m0 b = none
  fr : Fr m0 m []

theorem WRep.frame {m m' : Mem} {n : Nat} {ev : Value} {B : WB} {rv : Value} {s : TS} {S : List Nat} (h : WRep m n ev B rv s) (f : Fr m m' S) (hS : ∀ b ∈ B.all rv, b ∉ S) : WRep m' n ev B rv s := by
  have hS' : ∀ b, (b = B.w ∨ b = B.i ∨ b = B.l ∨ b = B.o ∨ b = B.p) → b ∉ S := fun b hb => hS b (by simp [WB.all]; omega)
  exact ⟨f.get h.hw (hS' _ (by simp)), f.get h.hi (hS' _ (by simp)), f.get h.hl (hS' _ (by simp)), f.get h.ho (hS' _ (by simp)), f.get h.hp (hS' _ (by simp)), h.hr.frame f (fun b hb => hS b (by simp [WB.all, hb])), h.d, h.dr⟩
theorem WRep.there {m : Mem} {n : Nat} {ev : Value} {B : WB} {rv : Value} {s : TS} (h : WRep m n ev B rv s) : ∀ b ∈ B.all rv, m b ≠ none := by
  intro b hb
  simp only [WB.all, List.cons_append, List.nil_append, List.mem_cons] at hb
  rcases hb with rfl | rfl | rfl | rfl | rfl | hb
  · rw [h.hw]; exact Option.some_ne_none _
  · rw [h.hi]; exact Option.some_ne_none _
  · rw [h.hl]; exact Option.some_ne_none _
  · rw [h.ho]; exact Option.some_ne_none _
  · rw [h.hp]; exact Option.some_ne_none _
  · exact h.hr.there b hb
theorem len_rowOf : ∀ p : List It, p.length ≤ (rowOf p).length
  | [] => by simp
  | i :: r => by rw [rowOf_cons]; have := len_rowOf r; simp; omega
theorem J.clock512 {s : TS} {p : List It} {n : Nat} {E : Nat → List Int} (j : J n E s p) (hn : n ≤ 512) : s.clock ≤ 512 := by
  have := cnt_le s.idx n; rw [← j.clock] at this; omega
theorem J.row512 {s : TS} {p : List It} {n : Nat} {E : Nat → List Int} (j : J n E s p) (hn : n ≤ 512) : s.many + s.row.length ≤ 512 := by
  have := j.clock512 hn; have := j.many; omega
/-- a new node is come to, over the top's next edge -/
theorem J.onto {n : Nat} {E : Nat → List Int} {s : TS} {i : It} {r : List It} (j : J n E s (i :: r)) {z : Nat} (hz : z < n) (h0 : s.idx z = 0) (he : i.edge < (E i.node).length) (hze : (z : Int) = (E i.node)[i.edge]) :
    J n E (s.come z) (⟨z, 0, []⟩ :: { i with edge := i.edge + 1 } :: r) := by
  have hi := j.its i (List.mem_cons_self ..)
  have hadj : Adj n E i.node z := ⟨hi.lt, hz, hze ▸ List.getElem_mem _⟩
  have j' := j.come hz h0 (fun i' r' e => by cases e; exact hadj)
  have hi' := j'.its i (List.mem_cons_of_mem _ (List.mem_cons_self ..))
  have hne : i.node ≠ z := fun e => j.vis i.node (by rw [j.row, mem_rowOf]; exact ⟨i, List.mem_cons_self .., .inl rfl⟩) (e ▸ h0)
  refine { j' with row := by rw [j'.row, rowOf_cons, rowOf_cons, rowOf_cons, rowOf_cons], its := fun k hk => ?_, chain := ?_ }
  · rcases List.mem_cons.1 hk with rfl | hk
    · exact j'.its _ (List.mem_cons_self ..)
    rcases List.mem_cons.1 hk with rfl | hk
    · refine ⟨hi'.lt, he, hi'.lowle, hi'.wit, fun y hy hm => ?_, hi'.rest⟩
      simp only [List.take_succ_eq_append_getElem he, List.mem_append, List.mem_singleton] at hm
      rcases hm with hm | hm
      · exact hi'.edges y hy hm
      · have hyz : y = z := by omega
        subst hyz
        have hidx : (s.come y).idx y = s.clock + 1 := Up_self _ _ _
        have hc : (0 : Int) ≤ s.clock := Int.natCast_nonneg _
        refine ⟨by rw [hidx]; omega, fun _ => ?_⟩
        rw [hidx]
        have h1 : (s.come y).low i.node = s.low i.node := Up_ne _ hne
        show (s.come y).low i.node ≤ _
        rw [h1]
        have := hi.lowle; have := j.top i.node; omega
    · exact j'.its k (List.mem_cons_of_mem _ (List.mem_cons_of_mem _ hk))
  · refine ⟨hadj, ?_⟩
    cases r with
    | nil => trivial
    | cons b r => exact j.chain

theorem rest_nodup {n : Nat} {E : Nat → List Int} {s : TS} {i : It} {r : List It} (j : J n E s (i :: r)) : i.node ∉ i.rest := by
  intro h
  have hs := j.srt
  rw [j.row, rowOf_cons, List.pairwise_append] at hs
  have := (List.pairwise_cons.1 hs.2.1).1 _ h
  omega

theorem leave_all (m : Mem) (n : Nat) (ev : Value) (E : Nat → List Int) (B : WB) (rv : Value) (s : TS) (i : It) (r : List It) (h : WRep m n ev B rv s) (hn : n ≤ 512) (j : J n E s (i :: r)) (he : i.edge = (E i.node).length) :
    MC Try.prog 22 [.pointer (some ⟨B.w, 0, none⟩), .int .i64 i.node] m fun rr m' => rr = .tuple #[] ∧ ∃ rv' s', WRep m' n ev B rv' s' ∧ Fr m m' (B.all rv) ∧ (∀ b ∈ blkOf rv', b ∈ blkOf rv) ∧ s'.idx = s.idx ∧
      (r = [] → J n E s' []) ∧ (∀ b r', r = b :: r' → ∃ path', J n E (s'.lower b.node (s'.low i.node)) path' ∧ wayV path' = wayV r ∧ costP E path' = costP E r ∧ path'.length = r.length) := by
  have hi := j.its i (List.mem_cons_self ..)
  have hrl := j.row512 hn
  by_cases hlow : s.low i.node = s.idx i.node
  · refine MC.mono (leave_yes m n ev B rv s i.node h hi.lt hlow (rowOf r) i.rest (by rw [j.row, rowOf_cons]) (rest_nodup j) j.lt (by omega) (by omega)) ?_
    rintro v m' ⟨rfl, rv', hw', f, hb⟩
    have jt := j.tell he hlow
    refine ⟨rfl, rv', _, hw', f, hb, rfl, fun e => e ▸ jt, ?_⟩
    rintro b r' rfl
    refine ⟨b :: r', ?_, rfl, rfl, rfl⟩
    have hbi := j.its b (List.mem_cons_of_mem _ (List.mem_cons_self ..))
    have hlt : s.idx b.node < s.idx i.node := by
      have hs := j.srt
      rw [j.row, rowOf_cons, List.pairwise_append] at hs
      exact hs.2.2 b.node (mem_rowOf.2 ⟨b, List.mem_cons_self .., .inl rfl⟩) i.node (List.mem_cons_self ..)
    have : (s.pop i.node (rowOf (b :: r')) i.rest).lower b.node ((s.pop i.node (rowOf (b :: r')) i.rest).low i.node) = s.pop i.node (rowOf (b :: r')) i.rest := by
      show { s.pop i.node (rowOf (b :: r')) i.rest with low := Up s.low b.node (min (s.low b.node) (s.low i.node)) } = _
      have h1 : Up s.low b.node (min (s.low b.node) (s.low i.node)) = s.low := by
        funext x
        by_cases e : x = b.node
        · rw [e, Up_self]; have := hbi.lowle; omega
        · rw [Up_ne _ e]
      rw [h1]; rfl
    rw [this]; exact jt
  · refine MC.mono (leave_no m n ev B rv s i.node h hi.lt hlow) ?_
    rintro v m' ⟨rfl, rfl⟩
    refine ⟨rfl, rv, s, h, Fr.refl _ _, fun b hb => hb, rfl, ?_, ?_⟩
    · rintro rfl; exact absurd j.bottom hlow
    · rintro b r' rfl
      exact ⟨_, j.hang he hlow, rfl, rfl, rfl⟩

set_option maxHeartbeats 2000000 in
theorem from_spec (m0 m : Mem) (n : Nat) (ev : Value) (E : Nat → List Int) (B : WB) (rv : Value) (s : TS) (v : Nat) (hn : n ≤ 512) (hg : GRd m0 n ev E) (hw : WRep m n ev B rv s) (hj : J n E s []) (hfresh : ∀ b ∈ B.all rv, m0 b = none) (hfr : Fr m0 m []) (hv : v < n) (h0 : s.idx v = 0) :
    MC Try.prog 17 [.pointer (some ⟨B.w, 0, none⟩), .int .i64 v] m fun r m' => r = .tuple #[] ∧ ∃ rv' s', WRep m' n ev B rv' s' ∧ J n E s' [] ∧ (∀ b ∈ B.all rv', m0 b = none) ∧ Fr m0 m' [] ∧ s'.idx v ≠ 0 ∧ (∀ x, s.idx x ≠ 0 → s'.idx x ≠ 0) := by
  refine MC_start Try.func17 from__ok (by kernel_rfl) (by simp [Try.f17]) ?_
  simp (disch := omega) only [go_sem]
  refine call_with (come_spec m n ev B rv s v hw hv (by have := hj.clock512 hn; omega) (by have := hj.row512 hn; omega)) ?_
  rintro r1 m1 ⟨rfl, rv1, hw1, f1, hb1⟩
  simp (disch := omega) only [go_sem]
  refine newP_intro fun bw hbw => ?_
  have j1 : J n E (s.come v) [⟨v, 0, []⟩] := hj.come hv h0 (fun i r e => by cases e)
  have hm0 : ∀ {b : Nat}, m b = none → m0 b = none := fun {b} h => by
    cases h' : m0 b with
    | none => rfl
    | some o => rw [hfr.get0 h'] at h; cases h
  have fr1 : Fr m0 m1 [] := hfr.trans f1 (fun x hx hne => (hne (hfresh x hx)).elim)
  have hm1 : ∀ {b : Nat}, m1 b = none → m0 b = none := fun {b} h => by
    cases h' : m0 b with
    | none => rfl
    | some o => rw [fr1.get0 h'] at h; cases h
  have fresh1 : ∀ b ∈ B.all rv1, m0 b = none := fun b hb => by
    simp only [WB.all, List.mem_append] at hb
    rcases hb with hb | hb
    · exact hfresh b (by simp only [WB.all, List.mem_append]; exact .inl hb)
    · rcases hb1 b hb with h | h
      · exact hfresh b (by simp only [WB.all, List.mem_append]; exact .inr h)
      · exact hm0 h
  simp (disch := omega) only [go_sem]
  refine loopQ_intro (fun g Ev m' => ∃ rv' wv s' path, g = cost E s'.idx n + costP E path ∧ Ev = [(0, .pointer (some ⟨B.w, 0, none⟩)), (4, wv)] ∧ WJ m0 m' n ev E B rv' wv s' path ∧ s'.idx v ≠ 0 ∧ (∀ x, s.idx x ≠ 0 → s'.idx x ≠ 0))
    _ rfl ⟨rv1, .slice (some ⟨bw, 0, none⟩) 1 1, s.come v, [⟨v, 0, []⟩], rfl, rfl, ⟨hw1.frame (Fr.new _ hbw) (fun b hb => List.not_mem_nil), j1, Own.new rfl, ?_, fresh1, ?_, fr1.trans0 (Fr.new _ hbw)⟩, ?_, ?_⟩ ?_
  · intro b hb hb'
    simp only [blkOf, List.mem_singleton] at hb; subst hb
    exact hw1.there _ hb' hbw
  · intro b hb
    simp only [blkOf, List.mem_singleton] at hb; subst hb
    exact hm1 hbw
  · show Up s.idx v _ v ≠ 0
    rw [Up_self]; have : (0 : Int) ≤ s.clock := Int.natCast_nonneg _; omega
  · intro x hx
    show Up s.idx v _ x ≠ 0
    by_cases e : x = v
    · rw [e, Up_self]; have : (0 : Int) ≤ s.clock := Int.natCast_nonneg _; omega
    · rw [Up_ne _ e]; exact hx
  clear hw1 j1 fr1 hm1 fresh1 hb1 f1 hbw bw
  rintro g Ev m2 ⟨rv2, wv, s2, path, rfl, rfl, ⟨w2, j2, way, dw, fresh, fw, fr⟩, hv2, hmono⟩
  cases path with
  | nil =>
    obtain ⟨a, c, rfl⟩ := way.form
    simp (disch := omega) only [go_sem, List.length_nil]
    exact post_intro ⟨rfl, rv2, s2, w2, j2, fresh, fr, hv2, hmono⟩
  | cons i r =>
    obtain ⟨bw, cap, tail, rfl, hb, hcap, hxl⟩ := way.row (by simp)
    simp only [List.length_cons] at hb hcap hxl way
    have hi := j2.its i (List.mem_cons_self ..)
    have hin := hi.lt
    have hie := hi.e
    have ck := j2.clock512 hn
    have rw5 := j2.row512 hn
    have hpl : r.length + 1 ≤ 512 := by have := len_rowOf (i :: r); rw [← j2.row] at this; simp only [List.length_cons] at this; omega
    obtain ⟨ea, ec, L, rfl, hL, hLr, hLv⟩ := hg.frame fr
    obtain ⟨hbig, a', c', hLi, hrow⟩ := hLv i.node hin
    have hLi' : i.node < L.length := by omega
    obtain ⟨be, oe, rfl, hce⟩ := hLr.at hLi'
    rw [List.getElem?_eq_getElem hLi', Option.some.injEq] at hLi
    rw [hLi] at hce
    have hx0 := wayV_node i r tail
    have hx1 := wayV_edge i r tail
    have hlenw : r.length * 2 + 1 < (wayV (i :: r) ++ tail).length := by simp only [List.length_append, wayV_len, List.length_cons]; omega
    obtain ⟨hw2, hi2, hl2, ho2, hp2, hr2, ⟨d1, d2, d3, d4, d5, d6, d7, d8, d9, d10⟩, dr⟩ := w2
    have hdw := dw bw (by simp [blkOf])
    have hdw' : bw ≠ B.w ∧ bw ≠ B.i ∧ bw ≠ B.l ∧ bw ≠ B.o ∧ bw ≠ B.p := by simp [WB.all] at hdw; omega
    simp (disch := omega) only [go_sem, List.length_cons, Int.natCast_add, Int.natCast_one, Int.add_sub_cancel, hb, hx0, hx1, hw2, hce]
    refine condB_dec (fun hed => ?_) (fun hed => ?_)
    · simp (disch := omega) only [go_sem, hb, hx0]
      have w2 : WRep m2 n (.slice (some ⟨be, oe, none⟩) n ec) B rv2 s2 := ⟨hw2, hi2, hl2, ho2, hp2, hr2, ⟨d1, d2, d3, d4, d5, d6, d7, d8, d9, d10⟩, dr⟩
      refine call_with (leave_all m2 n _ E B rv2 s2 i r w2 hn j2 (by omega)) ?_
      rintro rr m3 ⟨rfl, rv3, s3, w3, f3, hb3, hidx, hbot, hup⟩
      have way3 : Own m3 47 2 (.slice (some ⟨bw, 0, none⟩) r.length cap) r.length (wayV r) := by
        have := (way.shrink (k := r.length) (by omega) (by omega)).frame f3 (fun b hb => by simp only [blkOf, List.mem_singleton] at hb; subst hb; exact hdw)
        rwa [wayV_take] at this
      have fr3 : Fr m0 m3 [] := fr.trans f3 (fun x hx hne => (hne (fresh x hx)).elim)
      have all3 : ∀ b ∈ B.all rv3, b ∈ B.all rv2 := fun b hb => by
        simp only [WB.all, List.mem_append] at hb ⊢
        exact hb.imp (fun h => h) (hb3 b)
      have hcost : cost E s3.idx n + costP E r < cost E s2.idx n + costP E (i :: r) := by rw [hidx]; simp [costP]
      simp (disch := omega) only [go_sem, Int.natCast_add, Int.natCast_one, Int.add_sub_cancel]
      cases r with
      | nil =>
        simp (disch := omega) only [go_sem, List.length_nil]
        exact handN_intro _ hcost ⟨rv3, _, s3, [], rfl, rfl, ⟨w3, hbot rfl, way3, fun b hb hb' => dw b hb (all3 b hb'), fun b hb => fresh b (all3 b hb), fw, fr3⟩, by rw [hidx]; exact hv2, fun x hx => by rw [hidx]; exact hmono x hx⟩
      | cons b r' =>
        obtain ⟨path', jp, hway', hcost', hlen'⟩ := hup b r' rfl
        have hbn : b.node < n := (j2.its b (List.mem_cons_of_mem _ (List.mem_cons_self ..))).lt
        obtain ⟨bw', cap', tail', e', hb', hcap', hxl'⟩ := way3.row (by simp)
        cases e'
        simp only [List.length_cons] at hpl
        have hy0 := wayV_node b r' tail'
        obtain ⟨hw3, hi3, hl3, ho3, hp3, hr3, -, dr3⟩ := w3
        simp (disch := omega) only [go_sem, List.length_cons, Int.natCast_add, Int.natCast_one, Int.add_sub_cancel, hb', hy0, hw3, hl3]
        have f4 : Fr m3 (m3.set B.l (.cells (ri n (Up s3.low b.node (min (s3.low b.node) (s3.low i.node)))).toArray 3 (0, 0))) [B.l] := Fr.set (by simp)
        have dl3 : ∀ b' ∈ blkOf rv3, b' ≠ B.w ∧ b' ≠ B.i ∧ b' ≠ B.l ∧ b' ≠ B.o ∧ b' ≠ B.p := dr3
        refine handN_intro (cost E s3.idx n + costP E path') (by rw [hcost']; exact hcost) ⟨rv3, _, s3.lower b.node (s3.low i.node), path', rfl, rfl, ⟨⟨?_, ?_, ?_, ?_, ?_, ?_, ⟨d1, d2, d3, d4, d5, d6, d7, d8, d9, d10⟩, dr3⟩, jp, ?_, fun b hb hb' => dw b hb (all3 b hb'), fun b hb => fresh b (all3 b hb), fw, ?_⟩, by rw [lower_idx, hidx]; exact hv2, fun x hx => by rw [lower_idx, hidx]; exact hmono x hx⟩
        · exact f4.get hw3 (by simp; omega)
        · exact f4.get hi3 (by simp; omega)
        · simp (disch := omega) only [go_sem]; rfl
        · exact f4.get ho3 (by simp; omega)
        · exact f4.get hp3 (by simp; omega)
        · exact hr3.frame f4 (fun b' hb' => by have := dr3 b' hb'; simp; omega)
        · rw [hlen', hway']
          exact way3.frame f4 (fun b' hb' => by simp only [blkOf, List.mem_singleton] at hb'; subst hb'; simp; omega)
        · exact fr3.trans f4 (fun x hx hne => by simp only [List.mem_singleton] at hx; subst hx; exact (hne (fresh _ (by simp [WB.all]))).elim)
    · have hlt : i.edge < (E i.node).length := by omega
      obtain ⟨bx, ox, rfl, hcx⟩ := hrow.at (i := i.edge) (by simpa [ints] using hlt)
      simp only [ints, List.getElem_map] at hcx
      obtain ⟨to, hto⟩ : ∃ to, (E i.node)[i.edge] = to := ⟨_, rfl⟩
      rw [hto] at hcx
      have hse := wayV_setedge i r tail (i.edge + 1)
      simp only [Int.natCast_add, Int.natCast_one] at hse
      simp (disch := omega) only [go_sem, hb, hx0, hx1, hw2, hce, hcx, hse]
      generalize hm3 : Mem.set m2 bw _ = m3
      have f3 : Fr m2 m3 [bw] := by rw [← hm3]; exact Fr.set (by simp)
      have hb3 : m3 bw = some (.cells (wayV ({ i with edge := i.edge + 1 } :: r) ++ tail).toArray 47 (0, 0)) := by rw [← hm3]; simp [Mem.set]
      have hw3 := f3.get hw2 (by simp; omega)
      have hi3 := f3.get hi2 (by simp; omega)
      have hl3 := f3.get hl2 (by simp; omega)
      have ho3 := f3.get ho2 (by simp; omega)
      have hp3 := f3.get hp2 (by simp; omega)
      have hr3 := hr2.frame f3 (fun b hb => by
        have : b ∈ B.all rv2 := by simp [WB.all, hb]
        simp only [List.mem_singleton]; rintro rfl; exact hdw this)
      have w3 : WRep m3 n (.slice (some ⟨be, oe, none⟩) n ec) B rv2 s2 := ⟨hw3, hi3, hl3, ho3, hp3, hr3, ⟨d1, d2, d3, d4, d5, d6, d7, d8, d9, d10⟩, dr⟩
      have hx3 := wayV_node { i with edge := i.edge + 1 } r tail
      have way3 : Own m3 47 2 (.slice (some ⟨bw, 0, none⟩) (r.length + 1) cap) (r.length + 1) (wayV ({ i with edge := i.edge + 1 } :: r)) := by
        refine ⟨by rw [wayV_len]; rfl, .inr ⟨bw, cap, tail, rfl, hb3, ?_⟩⟩
        have := way.2
        rcases this with ⟨e, _⟩ | ⟨b', cap', tail', e, hb', hl'⟩
        · cases e
        · cases e
          rw [hb] at hb'
          have e2 : wayV (i :: r) ++ tail = wayV (i :: r) ++ tail' := by injection hb' with h; injection h with h; simpa using h
          rw [← e2] at hl'
          rw [← hl']; simp [wayV]
      have fr3 : Fr m0 m3 [] := fr.trans f3 (fun x hx hne => by simp only [List.mem_singleton] at hx; subst hx; exact (hne (fw _ (by simp [blkOf]))).elim)
      have hcost : cost E s2.idx n + costP E ({ i with edge := i.edge + 1 } :: r) < cost E s2.idx n + costP E (i :: r) := by simp [costP]; omega
      clear hm3
      by_cases hneg : to < 0
      · have e1 := decide_eq_true hneg
        simp (disch := omega) only [go_sem, e1]
        exact handN_intro _ hcost ⟨rv2, _, s2, _, rfl, rfl, ⟨w3, j2.pass hlt (fun z hz h => by omega), way3, dw, fresh, fw, fr3⟩, hv2, hmono⟩
      have e1 := decide_eq_false hneg
      obtain ⟨z, rfl⟩ : ∃ z : Nat, to = z := ⟨to.toNat, by omega⟩
      simp (disch := omega) only [go_sem, e1, hw3]
      by_cases hbig : n ≤ z
      · simp (disch := omega) only [go_sem]
        exact handN_intro _ hcost ⟨rv2, _, s2, _, rfl, rfl, ⟨w3, j2.pass hlt (fun z hz h => by omega), way3, dw, fresh, fw, fr3⟩, hv2, hmono⟩
      have hz : z < n := by omega
      simp (disch := omega) only [go_sem, hw3, hi3]
      refine condB_dec (fun hidx0 => ?_) (fun hidx0 => ?_)
      · simp (disch := omega) only [go_sem]
        refine call_with (come_spec m3 n _ B rv2 s2 z w3 hz (by omega) (by omega)) ?_
        rintro rr m4 ⟨rfl, rv4, w4, f4, hb4⟩
        simp (disch := omega) only [go_sem]
        refine newP_intro fun bn hbn => ?_
        have jn := j2.onto hz hidx0 hlt hto.symm
        simp (disch := omega) only [go_sem]
        have way4 := way3.frame f4 (fun b hb => by simp only [blkOf, List.mem_singleton] at hb; subst hb; exact hdw)
        have way5 := way4.frame0 (Fr.new (o := .cells [Value.int .i64 z, Value.int .i64 0].toArray 47) [] hbn)
        have hm3 : ∀ {b : Nat}, m3 b = none → m0 b = none := fun {b} h => by
          cases h' : m0 b with
          | none => rfl
          | some o => rw [fr3.get0 h'] at h; cases h
        have hm4 : ∀ {b : Nat}, (m4.set bn (.cells [Value.int .i64 z, Value.int .i64 0].toArray 47)) b = none → m4 b = none ∧ m0 b = none := fun {b} h => by
          have h4 : m4 b = none := by
            cases h' : m4 b with
            | none => rfl
            | some o => rw [(Fr.new _ hbn).get0 h'] at h; cases h
          refine ⟨h4, ?_⟩
          cases h' : m0 b with
          | none => rfl
          | some o =>
            have h3 := fr3.get0 h'
            by_cases hbb : b ∈ B.all rv2
            · rw [fresh b hbb] at h'; cases h'
            · rw [f4.get h3 hbb] at h4; cases h4
        refine app_own (n := r.length + 1) (k := 1) (c := 1) (news := [.int .i64 z, .int .i64 0]) way5 rfl ?_ rfl (by simp [Value.oneCell']) rfl (by omega) (by omega) ?_
        · simp (disch := omega) only [go_sem, ldS, Nat.one_mul]
        intro wv5 m5 way6 f5 hblk
        simp (disch := omega) only [go_sem]
        have fresh4 : ∀ b ∈ B.all rv4, m0 b = none := fun b hb => by
          simp only [WB.all, List.mem_append] at hb
          rcases hb with hb | hb
          · exact fresh b (by simp only [WB.all, List.mem_append]; exact .inl hb)
          · rcases hb4 b hb with h | h
            · exact fresh b (by simp only [WB.all, List.mem_append]; exact .inr h)
            · exact hm3 h
        have dw4 : bw ∉ B.all rv4 := fun hb => by
          simp only [WB.all, List.mem_append] at hb
          rcases hb with hb | hb
          · exact hdw (by simp only [WB.all, List.mem_append]; exact .inl hb)
          · rcases hb4 _ hb with h | h
            · exact hdw (by simp only [WB.all, List.mem_append]; exact .inr h)
            · rw [hb3] at h; cases h
        have w5 : WRep m5 n (.slice (some ⟨be, oe, none⟩) n ec) B rv4 (s2.come z) :=
          (w4.frame (Fr.new [] hbn) (fun _ _ => List.not_mem_nil)).frame f5 (fun b hb1 hb' => by
            have e : b = bw := by simpa [blkOf] using hb'
            exact dw4 (e ▸ hb1))
        have fr5 : Fr m0 m5 [] := ((fr3.trans f4 (fun x hx hne => (hne (fresh x hx)).elim)).trans0 (Fr.new _ hbn)).trans f5 (fun x hx hne => (hne (fw x hx)).elim)
        have hcc := cost_up (E := E) s2.idx z (s2.clock + 1 : Int) hidx0 (by omega) n
        rw [if_pos hz] at hcc
        have hidx5 : (s2.come z).idx = Up s2.idx z (s2.clock + 1 : Int) := rfl
        refine handN_intro (cost E (s2.come z).idx n + costP E (⟨z, 0, []⟩ :: { i with edge := i.edge + 1 } :: r)) ?_ ⟨rv4, wv5, s2.come z, _, rfl, rfl, ⟨w5, jn, way6, fun b hb hb' => ?_, fresh4, fun b hb => ?_, fr5⟩, ?_, fun x hx => ?_⟩
        · rw [hidx5]; simp only [costP, List.map_cons, List.sum_cons] at hcost ⊢; omega
        · rcases hblk b hb with h | h
          · simp only [blkOf, List.mem_singleton] at h; subst h; exact dw4 hb'
          · exact w4.there b hb' (hm4 h).1
        · rcases hblk b hb with h | h
          · exact fw b h
          · exact (hm4 h).2
        · rw [hidx5]
          by_cases e : v = z
          · rw [e, Up_self]; omega
          · rw [Up_ne _ e]; exact hv2
        · rw [hidx5]
          by_cases e : x = z
          · rw [e, Up_self]; omega
          · rw [Up_ne _ e]; exact hmono x hx
      · simp (disch := omega) only [go_sem, hw3, ho3]
        have hadj : Adj n E i.node z := ⟨hin, hz, hto ▸ List.getElem_mem _⟩
        refine condB_split (fun hop => ?_) (fun hop => ?_)
        · simp (disch := omega) only [go_sem, hb3, hx3, hw3, hl3, hi3]
          have hzr : z ∈ s2.row := (j2.opn z hz).1 hop
          have jl := (j2.lower (v := i.node) (x := s2.idx z) ⟨z, hzr, rfl, .one hadj⟩).pass hlt (fun y hy h => by
            have : y = z := by omega
            subst this
            refine ⟨hidx0, fun _ => ?_⟩
            show Up s2.low i.node _ i.node ≤ s2.idx y
            rw [Up_self]; omega)
          have f4 : Fr m3 (m3.set B.l (.cells (ri n (Up s2.low i.node (min (s2.low i.node) (s2.idx z)))).toArray 3 (0, 0))) [B.l] := Fr.set (by simp)
          refine handN_intro _ hcost ⟨rv2, _, s2.lower i.node (s2.idx z), _, rfl, rfl, ⟨⟨?_, ?_, ?_, ?_, ?_, ?_, ⟨d1, d2, d3, d4, d5, d6, d7, d8, d9, d10⟩, dr⟩, jl, ?_, dw, fresh, fw, ?_⟩, hv2, hmono⟩
          · exact f4.get hw3 (by simp; omega)
          · exact f4.get hi3 (by simp; omega)
          · simp (disch := omega) only [go_sem]; rfl
          · exact f4.get ho3 (by simp; omega)
          · exact f4.get hp3 (by simp; omega)
          · exact hr3.frame f4 (fun b' hb' => by have := dr b' hb'; simp; omega)
          · exact way3.frame f4 (fun b' hb' => by simp only [blkOf, List.mem_singleton] at hb'; subst hb'; simp; omega)
          · exact fr3.trans f4 (fun x hx hne => by simp only [List.mem_singleton] at hx; subst hx; exact (hne (fresh _ (by simp [WB.all]))).elim)
        · simp (disch := omega) only [go_sem]
          have hnr : z ∉ s2.row := fun h => by rw [(j2.opn z hz).2 h] at hop; cases hop
          exact handN_intro _ hcost ⟨rv2, _, s2, _, rfl, rfl, ⟨w3, j2.pass hlt (fun y hy h => by
            have : y = z := by omega
            subst this; exact ⟨hidx0, fun h => (hnr h).elim⟩), way3, dw, fresh, fw, fr3⟩, hv2, hmono⟩
end Go.Fw
