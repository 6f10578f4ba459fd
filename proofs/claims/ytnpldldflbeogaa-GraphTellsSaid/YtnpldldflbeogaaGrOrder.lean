import Derived.Test.YtnpldldflbeogaaGrRows
namespace Go.Fw
open Go.Proofs

/-- .. and lies in blocks of S -/
def Rd1In (m : Mem) (a : Option Addr) (l : List Value) (S : Nat → Prop) : Prop := l = [] ∨ ∃ b o, a = some ⟨b, o, none⟩ ∧ S b ∧ ∀ i v, l[i]? = some v → cellAt (m b) (o + i) = some v
def RdIn (m : Mem) (v : Value) (l : List (List Nat)) (S : Nat → Prop) : Prop :=
  ∃ a c L, v = .slice a l.length c ∧ L.length = l.length ∧ Rd1In m a L S ∧ ∀ (k : Nat) (r : List Nat), l[k]? = some r → ∃ a' c', L[k]? = some (.slice a' r.length c') ∧ Rd1In m a' (nats r) S
theorem Rd1In.rd {m : Mem} {a : Option Addr} {l : List Value} {S : Nat → Prop} (h : Rd1In m a l S) : Rd1 m a l :=
  h.imp (fun h => h) fun ⟨b, o, e, _, hc⟩ => ⟨b, o, e, hc⟩
theorem RdIn.rd {m : Mem} {v : Value} {l : List (List Nat)} {S : Nat → Prop} (h : RdIn m v l S) : RdRows m v l := by
  obtain ⟨a, c, L, h1, h2, h3, h4⟩ := h
  exact ⟨a, c, L, h1, h2, h3.rd, fun k r hk => let ⟨a', c', h5, h6⟩ := h4 k r hk; ⟨a', c', h5, h6.rd⟩⟩
theorem Rd1In.frame {m m' : Mem} {a : Option Addr} {l : List Value} {S : Nat → Prop} {T : List Nat} (h : Rd1In m a l S) (f : Fr m m' T) (hT : ∀ x ∈ T, ¬ S x) : Rd1In m' a l S :=
  h.imp (fun h => h) fun ⟨b, o, e, hS, hc⟩ => ⟨b, o, e, hS, fun i v hv => f.cellAt (hc i v hv) (fun hb => hT b hb hS)⟩
theorem RdIn.frame {m m' : Mem} {v : Value} {l : List (List Nat)} {S : Nat → Prop} {T : List Nat} (h : RdIn m v l S) (f : Fr m m' T) (hT : ∀ x ∈ T, ¬ S x) : RdIn m' v l S := by
  obtain ⟨a, c, L, h1, h2, h3, h4⟩ := h
  exact ⟨a, c, L, h1, h2, h3.frame f hT, fun k r hk => let ⟨a', c', h5, h6⟩ := h4 k r hk; ⟨a', c', h5, h6.frame f hT⟩⟩
theorem Own.rdIn {m : Mem} {t : TypeId} {n : Nat} {v : Value} {xs : List Value} {S : Nat → Prop} (h : Own m t 1 v n xs) (hS : ∀ b ∈ blkOf v, S b) : ∃ a c, v = .slice a n c ∧ Rd1In m a xs S := by
  obtain ⟨h1, ⟨rfl, rfl⟩ | ⟨b, cap, tail, rfl, hb, hl⟩⟩ := h
  · exact ⟨none, 0, rfl, .inl (List.eq_nil_of_length_eq_zero (by simpa using h1))⟩
  · refine ⟨_, _, rfl, .inr ⟨b, 0, rfl, hS b (by simp [blkOf]), fun i v hv => ?_⟩⟩
    rw [hb, cellAt_cells, List.getElem?_toArray, Nat.zero_add, List.getElem?_append_left]
    · exact hv
    · exact (List.getElem?_eq_some_iff.1 hv).1

theorem cross_len (n : Nat) (part : Nat → Nat) (v : Nat) (l : List Int) : (cross n part v l).length ≤ l.length := List.length_filterMap_le _ _
theorem crossAll_len (n : Nat) (E : Nat → List Int) (part : Nat → Nat) : ∀ k, k ≤ n → (∀ v, v < n → (E v).length ≤ 1048576) → (crossAll n E part k).length ≤ k * 1048576
  | 0, _, _ => by simp [crossAll]
  | k + 1, hk, h => by
    have ih := crossAll_len n E part k (by omega) h
    have h1 := cross_len n part k (E k)
    have h2 := h k (by omega)
    have : crossAll n E part (k + 1) = crossAll n E part k ++ cross n part k (E k) := by simp [crossAll, List.range_succ]
    rw [this, List.length_append]; omega
theorem crossAll_succ (n : Nat) (E : Nat → List Int) (part : Nat → Nat) (k : Nat) : crossAll n E part (k + 1) = crossAll n E part k ++ cross n part k (E k) := by simp [crossAll, List.range_succ]
theorem leftOf_le (C : List (Nat × Nat)) (D : List Nat) (p : Nat) : leftOf C D p ≤ C.length := List.length_filter_le _ _
theorem backOf_le (C : List (Nat × Nat)) (p : Nat) : (backOf C p).length ≤ C.length := by simp only [backOf, List.length_map]; exact List.length_filter_le _ _
theorem cross_no {n : Nat} {part : Nat → Nat} {v : Nat} {l : List Int} {k : Nat} (h : k < l.length) (hno : ¬ (0 ≤ l[k] ∧ l[k] < (n : Int) ∧ part l[k].toNat ≠ part v)) : cross n part v (l.take (k + 1)) = cross n part v (l.take k) := by
  unfold cross
  rw [List.take_succ_eq_append_getElem h, List.filterMap_append]
  simp only [List.filterMap_cons, List.filterMap_nil, if_neg hno, List.append_nil]
theorem cross_yes {n : Nat} {part : Nat → Nat} {v : Nat} {l : List Int} {k : Nat} (h : k < l.length) (hy : 0 ≤ l[k] ∧ l[k] < (n : Int) ∧ part l[k].toNat ≠ part v) : cross n part v (l.take (k + 1)) = cross n part v (l.take k) ++ [(part v, part l[k].toNat)] := by
  unfold cross
  rw [List.take_succ_eq_append_getElem h, List.filterMap_append]
  simp only [List.filterMap_cons, List.filterMap_nil, if_pos hy]

structure LB (m m' : Mem) (N bl bb : Nat) (fb : Nat → Value) (C : List (Nat × Nat)) : Prop where
  hl : m' bl = some (.cells (ri N (fun p => (leftOf C [] p : Int))).toArray 3 (0, 0))
  hr : Rows m' bb N fb (backOf C)
  fr : Fr m m' []
  fresh : ∀ x, InRows bb N fb x → m x = none
  nl : ¬ InRows bb N fb bl

def tof (D : List Nat) (p : Nat) : Int := if p ∈ D then 1 else 0
theorem cnt_full (f : Nat → Int) : ∀ n, n ≤ cnt f n → ∀ p, p < n → f p ≠ 0
  | 0, _, p, hp => by omega
  | n + 1, h, p, hp => by
    have hle := cnt_le f n
    simp only [cnt] at h
    split at h
    · omega
    · rename_i hne
      by_cases e : p = n
      · subst e; exact hne
      · exact cnt_full f n (by omega) p (by omega)
theorem cnt_all (f : Nat → Int) : ∀ n, (∀ p, p < n → f p ≠ 0) → cnt f n = n
  | 0, _ => rfl
  | n + 1, h => by
    simp only [cnt]
    rw [cnt_all f n (fun p hp => h p (by omega)), if_neg (h n (by omega))]
structure LM (m m' : Mem) (n : Nat) (E : Nat → List Int) (part : Nat → Nat) (N bl bb bt : Nat) (fb fN : Nat → Value) (C : List (Nat × Nat)) (D : List Nat) (ov : Value) : Prop where
  hl : m' bl = some (.cells (ri N (fun p => (leftOf C D p : Int))).toArray 3 (0, 0))
  hr : Rows m' bb N fb (backOf C)
  ht : m' bt = some (.cells (ri N (tof D)).toArray 3 (0, 0))
  ho : Own m' 26 1 ov D.length (D.map fN)
  dov : ∀ x ∈ blkOf ov, m x = none ∧ x ≠ bl ∧ x ≠ bt ∧ ¬ InRows bb N fb x
  fr : Fr m m' []
  lt : ∀ p ∈ D, p < N
  clo : DClo n E part D
  cn : D.length = cnt (tof D) N
  pre : ∀ r, Out n E (fun x => x < n ∧ part x ∈ D) r → Out n E (fun _ => False) (D.map (nodesOf n part) ++ r)

def Best (n : Nat) (part : Nat → Nat) (C : List (Nat × Nat)) (D : List Nat) (k : Nat) (best : Int) : Prop :=
  (best = -1 ∧ ∀ p, p < k → ¬ Cand C D p) ∨ ∃ b : Nat, best = b ∧ b < k ∧ Cand C D b ∧ ∀ p, p < k → Cand C D p → hd n part b ≤ hd n part p
theorem Best.skip {n : Nat} {part : Nat → Nat} {C : List (Nat × Nat)} {D : List Nat} {k : Nat} {best : Int} (h : Best n part C D k best) (hk : ¬ Cand C D k) : Best n part C D (k + 1) best := by
  rcases h with ⟨e, h⟩ | ⟨b, e, h1, h2, h3⟩
  · refine .inl ⟨e, fun p hp => ?_⟩
    by_cases e : p = k
    · subst e; exact hk
    · exact h p (by omega)
  · refine .inr ⟨b, e, by omega, h2, fun p hp hc => ?_⟩
    by_cases e : p = k
    · subst e; exact (hk hc).elim
    · exact h3 p (by omega) hc

set_option maxHeartbeats 4000000 in
theorem order_spec (m : Mem) (n : Nat) (ev : Value) (E : Nat → List Int) (part : Nat → Nat) (N bp bN : Nat) (fN : Nat → Value) (hn : n ≤ 512) (hg : GRd m n ev E) (hpt : PT n E part N)
    (hp : m bp = some (.cells (ri n (fun v => (part v : Int))).toArray 3 (0, 0))) (hN : Rows m bN N fN (nodesOf n part))
    (S : Nat → Prop) (hS : ∀ x, m x = none → S x) (hSN : ∀ p, p < N → ∀ x ∈ blkOf (fN p), S x) :
    MC Try.prog 18 [ev, .slice (some ⟨bp, 0, none⟩) n n, .slice (some ⟨bN, 0, none⟩) N N] m fun v m' => ∃ l, Out n E (fun _ => False) l ∧ RdIn m' v l S ∧ Fr m m' [] := by
  have hNn := hpt.small
  obtain ⟨ea, ec, L, rfl, hL, hLr, hLv⟩ := hg
  refine MC_start Try.func18 order__ok (by kernel_rfl) (by simp [Try.f18]) ?_
  simp (disch := omega) only [go_sem]
  refine newP_intro fun bl hbl => ?_
  simp (disch := omega) only [go_sem]
  refine newP_intro fun bb hbb => ?_
  simp (disch := omega) only [go_sem]
  have hbb0 : m bb = none ∧ bb ≠ bl := by
    by_cases e : bb = bl
    · subst e; simp [Mem.set] at hbb
    · simp [Mem.set, e] at hbb; exact ⟨hbb, e⟩
  refine loopQ_intro (fun g Ev m' => ∃ v fb, v ≤ n ∧ g = n - v ∧ Ev = [(0, .slice ea n ec), (1, .slice (some ⟨bp, 0, none⟩) n n), (2, .slice (some ⟨bN, 0, none⟩) N N), (7, .slice (some ⟨bl, 0, none⟩) N N), (8, .slice (some ⟨bb, 0, none⟩) N N), (25, .slice ea n ec), (26, .int .i64 (n : Nat)), (27, .int .i64 (v : Nat))] ∧
    LB m m' N bl bb fb (crossAll n E part v)) n rfl ⟨0, fun _ => .slice none 0 0, by omega, by omega, rfl, ?_⟩ ?_
  · refine ⟨?_, Rows.new, (Fr.new _ hbl).trans0 (Fr.new _ hbb), ?_, ?_⟩
    · simp (disch := omega) only [go_sem]; rfl
    · intro x hx; rw [inRows_new hx]; exact hbb0.1
    · intro hx; exact hbb0.2 (inRows_new hx).symm
  rintro g Ev m1 ⟨v, fb, hv, rfl, rfl, hLB⟩
  simp (disch := omega) only [go_sem]
  refine condB_dec (fun h => ?_) (fun h => ?_)
  · have hvn : v < n := by omega
    obtain ⟨hbig, a', c', hLi, hrow⟩ := hLv v hvn
    have hLi' : v < L.length := by omega
    obtain ⟨be, oe, rfl, hce⟩ := hLr.at hLi'
    rw [List.getElem?_eq_getElem hLi', Option.some.injEq] at hLi
    rw [hLi] at hce
    have hce1 := hLB.fr.cellAt hce (by simp)
    simp (disch := omega) only [go_sem, hce1]
    refine loopQ_intro (fun g Ev m' => ∃ k fb, k ≤ (E v).length ∧ g = (E v).length - k ∧ Ev = [(0, .slice (some ⟨be, oe, none⟩) n ec), (1, .slice (some ⟨bp, 0, none⟩) n n), (2, .slice (some ⟨bN, 0, none⟩) N N), (7, .slice (some ⟨bl, 0, none⟩) N N), (8, .slice (some ⟨bb, 0, none⟩) N N), (9, .int .i64 (v : Nat)), (25, .slice (some ⟨be, oe, none⟩) n ec), (26, .int .i64 (n : Nat)), (27, .int .i64 (v : Nat)), (32, .slice a' (E v).length c'), (33, .int .i64 ((E v).length : Nat)), (34, .int .i64 (k : Nat))] ∧
      LB m m' N bl bb fb (crossAll n E part v ++ cross n part v ((E v).take k))) (E v).length rfl ⟨0, fb, by omega, by omega, rfl, ?_⟩ ?_
    · rw [List.take_zero]; simpa [cross] using hLB
    clear hLB fb m1 hce1
    rintro g Ev m1 ⟨k, fb, hk, rfl, rfl, hLB⟩
    simp (disch := omega) only [go_sem]
    refine condB_dec (fun h => ?_) (fun h => ?_)
    · have hkl : k < (E v).length := by omega
      obtain ⟨bx, ox, rfl, hcx⟩ := hrow.at (i := k) (by simpa [ints] using hkl)
      simp only [ints, List.getElem_map] at hcx
      obtain ⟨to, hto⟩ : ∃ to, (E v)[k] = to := ⟨_, rfl⟩
      rw [hto] at hcx
      have hcx1 := hLB.fr.cellAt hcx (by simp)
      have hp1 := hLB.fr.get0 hp
      have hno := cross_no (n := n) (part := part) (v := v) hkl
      have hyes := cross_yes (n := n) (part := part) (v := v) hkl
      rw [hto] at hno hyes
      simp (disch := omega) only [go_sem, hcx1]
      by_cases hneg : to < 0
      · have e1 := decide_eq_false (show ¬ (0 ≤ to) by omega)
        simp (disch := omega) only [go_sem, e1]
        exact handN_intro ((E v).length - (k + 1)) (by omega) ⟨k + 1, fb, by omega, rfl, rfl, by rw [hno (by omega)]; exact hLB⟩
      have e1 := decide_eq_true (show 0 ≤ to by omega)
      by_cases hbigg : (n : Int) ≤ to
      · have e2 := decide_eq_false (show ¬ (to < n) by omega)
        simp (disch := omega) only [go_sem, e1, e2]
        exact handN_intro ((E v).length - (k + 1)) (by omega) ⟨k + 1, fb, by omega, rfl, rfl, by rw [hno (by omega)]; exact hLB⟩
      have e2 := decide_eq_true (show to < n by omega)
      obtain ⟨z, rfl⟩ : ∃ z : Nat, to = z := ⟨to.toNat, by omega⟩
      simp only [Int.toNat_natCast] at hno hyes
      have hzn : z < n := by omega
      simp (disch := omega) only [go_sem, e1, e2, hp1]
      obtain ⟨hl1, hr1, fr1, fresh1, nl1⟩ := hLB
      have hpv := hpt.lt v hvn
      have hpz := hpt.lt z hzn
      have hClen : (crossAll n E part v ++ cross n part v ((E v).take k)).length ≤ 537919488 := by
        have h1 := crossAll_len n E part v hv (fun v hv => (hLv v hv).1)
        have h2 := cross_len n part v ((E v).take k)
        rw [List.length_take] at h2
        rw [List.length_append]
        have : v * 1048576 ≤ 512 * 1048576 := Nat.mul_le_mul_right _ (by omega)
        omega
      refine condB_dec (fun hne => ?_) (fun hne => ?_)
      · have hlb := leftOf_le (crossAll n E part v ++ cross n part v ((E v).take k)) [] (part v)
        have hbk := backOf_le (crossAll n E part v ++ cross n part v ((E v).take k)) (part z)
        have hy := hyes ⟨by omega, by omega, by omega⟩
        have hbpl : bp ≠ bl := fun e => by rw [e, hbl] at hp; cases hp
        have hrb1 := hr1.hb
        simp (disch := omega) only [go_sem, hp1, hl1, hrb1]
        generalize hm2 : Mem.set m1 bl _ = m2
        have f2 : Fr m1 m2 [bl] := by rw [← hm2]; exact Fr.set (by simp)
        have hl2 := (congrFun hm2 bl).symm
        simp (disch := omega) only [go_sem] at hl2
        have hp2 := f2.get hp1 (by simpa using hbpl)
        have hr2 := hr1.frame f2 (fun x hx => by simp only [List.mem_singleton] at hx; subst hx; exact nl1)
        have hrb := hr2.hb
        refine newP_intro fun bn hbn => ?_
        have f3 : Fr m2 (m2.set bn (.cells [Value.int .i64 (part v : Nat)].toArray 3)) [] := Fr.new _ hbn
        have hp3 := f3.get0 hp2
        have hrb3 := f3.get0 hrb
        simp (disch := omega) only [go_sem, hp3, hrb3]
        refine app_own (n := (backOf (crossAll n E part v ++ cross n part v ((E v).take k)) (part z)).length) (k := 1) (c := 1) (news := [.int .i64 (part v : Nat)]) ((hr2.own (part z) hpz).frame0 f3) rfl ?_ rfl (by simp [Value.oneCell']) rfl (by omega) (by omega) ?_
        · simp (disch := omega) only [go_sem, ldS]
        intro w5 m5 own5 f5 hblk
        obtain ⟨hr6, hrb5, f6, hin⟩ := hr2.step hpz f3 own5 f5 hblk
        have hpn : bp ∉ blkOf (fb (part z)) := fun hx => by
          have := fresh1 bp (.inr ⟨part z, hpz, hx⟩); rw [hp] at this; cases this
        have hp5 := f5.get hp3 hpn
        obtain ⟨wa, wc, rfl⟩ := own5.form
        simp (disch := omega) only [go_sem, hp5, hrb5]
        have hm2n : ∀ x, m2 x = none → m x = none := fun x hx => by
          cases h' : m x with
          | none => rfl
          | some o =>
            have h1 := fr1.get0 h'
            by_cases e : x = bl
            · subst e; rw [hl2] at hx; cases hx
            · rw [f2.get h1 (by simpa using e)] at hx; cases hx
        have hm3n : ∀ x, (m2.set bn (.cells [Value.int .i64 (part v : Nat)].toArray 3)) x = none → m2 x = none := fun x hx => by
          cases h' : m2 x with
          | none => rfl
          | some o => rw [f3.get0 h'] at hx; cases hx
        have hnl2 : bl ∉ bb :: blkOf (fb (part z)) := fun hx => by
          rcases List.mem_cons.1 hx with e | e
          · exact nl1 (.inl e)
          · exact nl1 (.inr ⟨part z, hpz, e⟩)
        refine handN_intro ((E v).length - (k + 1)) (by omega) ⟨k + 1, _, by omega, rfl, rfl, ?_, by rw [hy, ← List.append_assoc, backOf_add]; exact hr6, ?_, fun x hx => ?_, fun hx => ?_⟩
        · rw [hy, ← List.append_assoc, leftOf_add]
          have h7 := f6.get (f3.get0 hl2) hnl2
          refine h7.trans ?_
          congr 3
          apply List.map_congr_left
          intro p _
          by_cases e : p = part v
          · subst e; rw [Up_self]; simp only [Up_self]; simp
          · rw [Up_ne _ e]; simp only [Up_ne _ e]
        · exact ((fr1.trans f2 (fun x hx hne => by simp only [List.mem_singleton] at hx; subst hx; exact (hne hbl).elim)).trans0 f3).trans f6 (fun x hx hne => by
            rcases List.mem_cons.1 hx with e | e
            · exact (hne (fresh1 x (.inl e))).elim
            · exact (hne (fresh1 x (.inr ⟨part z, hpz, e⟩))).elim)
        · rcases hin x hx with h | h
          · exact fresh1 x h
          · exact hm2n x (hm3n x h)
        · rcases hin bl hx with h | h
          · exact nl1 h
          · rw [f3.get0 hl2] at h; cases h
      · simp (disch := omega) only [go_sem]
        exact handN_intro ((E v).length - (k + 1)) (by omega) ⟨k + 1, fb, by omega, rfl, rfl, by rw [hno (by omega)]; exact ⟨hl1, hr1, fr1, fresh1, nl1⟩⟩
    · have hke : k = (E v).length := by omega
      subst hke
      rw [List.take_length, ← crossAll_succ] at hLB
      simp (disch := omega) only [go_sem]
      exact handN_intro (n - (v + 1)) (by omega) ⟨v + 1, fb, by omega, rfl, rfl, hLB⟩
  · have hve : n = v := by omega
    subst hve
    simp (disch := omega) only [go_sem]
    refine newP_intro fun bt hbt => ?_
    simp (disch := omega) only [go_sem]
    obtain ⟨C, hC⟩ : ∃ C, C = crossAll n E part n := ⟨_, rfl⟩
    have hClen : C.length ≤ 537919488 := by
      have h1 := crossAll_len n E part n (Nat.le_refl _) (fun v hv => (hLv v hv).1)
      rw [← hC] at h1
      have : n * 1048576 ≤ 512 * 1048576 := Nat.mul_le_mul_right _ (by omega)
      omega
    rw [← hC] at hLB
    obtain ⟨hl1, hr1, fr1, fresh1, nl1⟩ := hLB
    have hbtl : bt ≠ bl := fun e => by rw [e, hl1] at hbt; cases hbt
    have hbtr : ¬ InRows bb N fb bt := fun hx => hr1.there hx hbt
    have hbt0 : m bt = none := by
      cases h' : m bt with
      | none => rfl
      | some o => rw [fr1.get0 h'] at hbt; cases hbt
    refine loopQ_intro (fun g Ev m' => ∃ D ov, g = N - D.length ∧ Ev = [(2, .slice (some ⟨bN, 0, none⟩) N N), (7, .slice (some ⟨bl, 0, none⟩) N N), (8, .slice (some ⟨bb, 0, none⟩) N N), (13, .slice (some ⟨bt, 0, none⟩) N N), (14, ov)] ∧
      LM m m' n E part N bl bb bt fb fN C D ov) N rfl ⟨[], .slice none 0 0, by simp, rfl, ?_⟩ ?_
    · have hf : Fr m1 (m1.set bt (.cells (ri N fun _ => 0).toArray 3)) [] := Fr.new _ hbt
      refine ⟨hf.get0 hl1, hr1.frame0 hf, ?_, Own.nil _ _ _, by simp [blkOf], fr1.trans0 hf, by simp, by intro u v _ h; simp at h, ?_, ?_⟩
      · have e : tof [] = fun _ => (0 : Int) := by funext x; simp [tof]
        rw [e]; simp [Mem.set]
      · have : ∀ n, cnt (tof []) n = 0 := by intro n; induction n <;> simp_all [cnt, tof]
        simp [this]
      · intro r hr
        have : (fun x => x < n ∧ part x ∈ ([] : List Nat)) = fun _ => False := by funext x; simp
        rw [this] at hr; simpa using hr
    clear hl1 hr1 fr1 hbt h m1
    rintro g Ev m1 ⟨D, ov, rfl, rfl, ⟨hl1, hr1, ht1, ho1, dov, fr1, Dlt, hclo, hcnt, hpre⟩⟩
    obtain ⟨oa, oc, rfl⟩ := ho1.form
    simp (disch := omega) only [go_sem]
    refine condB_dec (fun h => ?_) (fun h => ?_)
    · have hNb := fr1.get0 hN.hb
      have hrb := hr1.hb
      obtain ⟨t, ht⟩ : ∃ t, t = tof D := ⟨_, rfl⟩
      rw [← ht] at ht1
      simp (disch := omega) only [go_sem]
      refine loopQ_intro (fun g Ev m' => ∃ k best, k ≤ N ∧ g = N - k ∧ Ev = [(2, .slice (some ⟨bN, 0, none⟩) N N), (7, .slice (some ⟨bl, 0, none⟩) N N), (8, .slice (some ⟨bb, 0, none⟩) N N), (13, .slice (some ⟨bt, 0, none⟩) N N), (14, .slice oa D.length oc), (15, .int .i64 best), (96, .int .i64 (N : Nat)), (97, .int .i64 (k : Nat))] ∧
        m' = m1 ∧ Best n part C D k best) N rfl ⟨0, -1, by omega, rfl, rfl, rfl, .inl ⟨rfl, by omega⟩⟩ ?_
      rintro g Ev m' ⟨k, best, hk, rfl, rfl, rfl, hbest⟩
      simp (disch := omega) only [go_sem]
      refine condB_dec (fun h2 => ?_) (fun h2 => ?_)
      · have hkN : k < N := by omega
        obtain ⟨b1, cap1, tail1, e1, hb1, -, -⟩ := (hN.own k hkN).row (by have := nodesOf_ne hpt hkN; exact List.length_pos_iff.2 this)
        have hb1' := fr1.get0 hb1
        have hx1 : (nats (nodesOf n part k) ++ tail1)[0]? = some (.int .i64 (hd n part k : Nat)) := by
          have := nodesOf_ne hpt hkN
          unfold hd nats
          cases hl : nodesOf n part k with
          | nil => exact absurd hl this
          | cons x r => rfl
        have hne0 : 0 < (nodesOf n part k).length := by have := nodesOf_ne hpt hkN; exact List.length_pos_iff.2 this
        simp (disch := omega) only [go_sem, ht1]
        by_cases hkD : k ∈ D
        · have e2 : decide (t k = 0) = false := by rw [ht]; simp [tof, hkD]
          simp (disch := omega) only [go_sem, e2, undef]
          exact handN_intro (N - (k + 1)) (by omega) ⟨k + 1, best, by omega, rfl, rfl, rfl, hbest.skip (fun hc => hc.1 hkD)⟩
        have e2 : decide (t k = 0) = true := by rw [ht]; simp [tof, hkD]
        simp (disch := omega) only [go_sem, e2, hl1]
        by_cases hlk : leftOf C D k = 0
        · have e3 : decide ((leftOf C D k : Int) = 0) = true := by rw [hlk]; rfl
          have hcand : Cand C D k := ⟨hkD, hlk⟩
          rcases hbest with ⟨rfl, hno⟩ | ⟨b, rfl, hbk, hcb, hmin⟩
          · have e5 : decide ((-1 : Int) < 0) = true := rfl
            simp (disch := omega) only [go_sem, e3, e5]
            exact handN_intro (N - (k + 1)) (by omega) ⟨k + 1, (k : Nat), by omega, rfl, rfl, rfl, .inr ⟨k, rfl, by omega, hcand, fun p hp hc => by
                by_cases e : p = k
                · subst e; exact Nat.le_refl _
                · exact (hno p (by omega) hc).elim⟩⟩
          · have hbN : b < N := by omega
            obtain ⟨b2, cap2, tail2, e4, hb2, -, -⟩ := (hN.own b hbN).row (by have := nodesOf_ne hpt hbN; exact List.length_pos_iff.2 this)
            have hb2' := fr1.get0 hb2
            have hx2 : (nats (nodesOf n part b) ++ tail2)[0]? = some (.int .i64 (hd n part b : Nat)) := by
              have := nodesOf_ne hpt hbN
              unfold hd nats
              cases hl : nodesOf n part b with
              | nil => exact absurd hl this
              | cons x r => rfl
            have hne2 : 0 < (nodesOf n part b).length := by have := nodesOf_ne hpt hbN; exact List.length_pos_iff.2 this
            have e5 : decide ((b : Int) < 0) = false := decide_eq_false (by omega)
            simp (disch := omega) only [go_sem, e3, e5, hNb, e1, e4, hb1', hb2', hx1, hx2]
            refine condB_dec (fun h3 => ?_) (fun h3 => ?_)
            · simp (disch := omega) only [go_sem]
              exact handN_intro (N - (k + 1)) (by omega) ⟨k + 1, (k : Nat), by omega, rfl, rfl, rfl, .inr ⟨k, rfl, by omega, hcand, fun p hp hc => by
                by_cases e : p = k
                · subst e; exact Nat.le_refl _
                · have := hmin p (by omega) hc; omega⟩⟩
            · simp (disch := omega) only [go_sem]
              exact handN_intro (N - (k + 1)) (by omega) ⟨k + 1, (b : Nat), by omega, rfl, rfl, rfl, .inr ⟨b, rfl, by omega, hcb, fun p hp hc => by
                by_cases e : p = k
                · subst e; omega
                · exact hmin p (by omega) hc⟩⟩
        · have e3 : decide ((leftOf C D k : Int) = 0) = false := decide_eq_false (by omega)
          simp (disch := omega) only [go_sem, e3, undef]
          exact handN_intro (N - (k + 1)) (by omega) ⟨k + 1, best, by omega, rfl, rfl, rfl, hbest.skip (fun hc => hlk hc.2)⟩
      · have hkN : N = k := by omega
        subst hkN
        have hex : ∃ p, p < N ∧ p ∉ D := Classical.byContradiction fun hn => by
          have : cnt (tof D) N = N := cnt_all _ _ (fun p hp => by
            unfold tof
            rw [if_pos (Classical.byContradiction fun h' => hn ⟨p, hp, h'⟩)]; decide)
          omega
        obtain ⟨p0, hp0, hc0⟩ := cand_there hpt hex
        rw [← hC] at hc0
        rcases hbest with ⟨_, hno⟩ | ⟨b, rfl, hbN, hcb, hmin⟩
        · exact (hno p0 hp0 hc0).elim
        have hNbn : bN ≠ bt := fun e => by have := hN.hb; rw [e, hbt0] at this; cases this
        simp (disch := omega) only [go_sem, ht1, hNb]
        obtain ⟨fa, fc, efN⟩ := (hN.own b hbN).form
        generalize hm2 : Mem.set m' bt _ = m2
        have f2 : Fr m' m2 [bt] := by rw [← hm2]; exact Fr.set (by simp)
        have ht2 := (congrFun hm2 bt).symm
        simp (disch := omega) only [go_sem] at ht2
        have hl2 := f2.get hl1 (by simp; omega)
        have hr2 := hr1.frame f2 (fun x hx => by simp only [List.mem_singleton] at hx; subst hx; exact hbtr)
        have ho2 := ho1.frame f2 (fun x hx => by have := (dov x hx).2.2.1; simpa using this)
        have hNb2 := f2.get hNb (by simpa using hNbn)
        clear hm2
        simp (disch := omega) only [go_sem, efN]
        refine newP_intro fun bn hbn => ?_
        have f3 : Fr m2 (m2.set bn (.cells [Value.slice fa (nodesOf n part b).length fc].toArray 26)) [] := Fr.new _ hbn
        simp (disch := omega) only [go_sem]
        have hDlen : D.length < N := by omega
        refine app_own (n := D.length) (k := 1) (c := 1) (news := [.slice fa (nodesOf n part b).length fc]) (ho2.frame0 f3) rfl ?_ rfl (by simp [Value.oneCell']) rfl (by omega) (by omega) ?_
        · simp (disch := omega) only [go_sem, ldS]
        intro w5 m5 own5 f5 hblk
        have fr2 : Fr m m2 [] := fr1.trans f2 (fun x hx hne => by simp only [List.mem_singleton] at hx; subst hx; exact (hne hbt0).elim)
        have dov' : ∀ x ∈ blkOf (Value.slice oa D.length oc), x ≠ bl ∧ x ≠ bt ∧ ¬ InRows bb N fb x := fun x hx => (dov x hx).2
        have hl5 := f5.get (f3.get0 hl2) (fun hx => (dov' _ hx).1 rfl)
        have ht5 := f5.get (f3.get0 ht2) (fun hx => (dov' _ hx).2.1 rfl)
        have hr5 := (hr2.frame0 f3).frame f5 (fun x hx => (dov' x hx).2.2)
        have fr5 : Fr m m5 [] := (fr2.trans0 f3).trans f5 (fun x hx hne => (hne (dov x hx).1).elim)
        have hrb5 := hr5.hb
        have hm3n : ∀ x, (m2.set bn (.cells [Value.slice fa (nodesOf n part b).length fc].toArray 26)) x = none → m2 x = none := fun x hx => by
          cases h' : m2 x with
          | none => rfl
          | some o => rw [f3.get0 h'] at hx; cases hx
        have dov5 : ∀ x ∈ blkOf w5, m x = none ∧ x ≠ bl ∧ x ≠ bt ∧ ¬ InRows bb N fb x := fun x hx => by
          rcases hblk x hx with h' | h'
          · exact dov x h'
          · have h2 := hm3n x h'
            refine ⟨?_, fun e => ?_, fun e => ?_, fun hi => ?_⟩
            · cases h6 : m x with
              | none => rfl
              | some o => rw [fr2.get0 h6] at h2; cases h2
            · rw [e, hl2] at h2; cases h2
            · rw [e, ht2] at h2; cases h2
            · exact hr2.there hi h2
        obtain ⟨ba, bc, efb⟩ := (hr5.own b hbN).form
        obtain ⟨wa, wc, rfl⟩ := own5.form
        simp (disch := omega) only [go_sem, hrb5, efb]
        refine loopQ_intro (fun g Ev m' => ∃ k, k ≤ (backOf C b).length ∧ g = (backOf C b).length - k ∧ Ev = [(2, .slice (some ⟨bN, 0, none⟩) N N), (7, .slice (some ⟨bl, 0, none⟩) N N), (8, .slice (some ⟨bb, 0, none⟩) N N), (13, .slice (some ⟨bt, 0, none⟩) N N), (14, .slice wa (D.length + 1) wc), (146, .slice ba (backOf C b).length bc), (147, .int .i64 ((backOf C b).length : Nat)), (148, .int .i64 (k : Nat))] ∧
          m' bl = some (.cells (ri N (fun p => (leftOf C D p : Int) - ((((backOf C b).take k).filter (· == p)).length : Int))).toArray 3 (0, 0)) ∧ ∀ x, x ≠ bl → m' x = m5 x) (backOf C b).length rfl ⟨0, by omega, by omega, rfl, ?_, fun _ _ => rfl⟩ ?_
        · simpa using hl5
        rintro g Ev m6 ⟨k, hk, rfl, rfl, hl6, hx6⟩
        simp (disch := omega) only [go_sem]
        refine condB_dec (fun h3 => ?_) (fun h3 => ?_)
        · have hkl : k < (backOf C b).length := by omega
          have ownb := hr5.own b hbN
          rw [efb] at ownb
          obtain ⟨bx, cx, tx, ex, hbx, -, -⟩ := ownb.row (by omega)
          cases ex
          have hnb : bx ≠ bl := fun e => nl1 (.inr ⟨b, hbN, by rw [efb, e]; simp [blkOf]⟩)
          have hbx6 : m6 bx = _ := (hx6 bx hnb).trans hbx
          obtain ⟨q, hq⟩ : ∃ q, (backOf C b)[k] = q := ⟨_, rfl⟩
          have hqx : (nats (backOf C b) ++ tx)[k]? = some (.int .i64 (q : Nat)) := by
            rw [List.getElem?_append_left (by simpa [nats] using hkl)]
            simp [nats, List.getElem?_eq_getElem hkl, hq]
          have hqN : q < N := by
            have : q ∈ backOf C b := hq ▸ List.getElem_mem _
            simp only [backOf, List.mem_map, List.mem_filter] at this
            obtain ⟨c, ⟨hcm, _⟩, rfl⟩ := this
            rw [hC] at hcm
            obtain ⟨u, v, ha, _, rfl⟩ := mem_crossAll.1 hcm
            exact hpt.lt u ha.1
          have hb1 := leftOf_le C D q
          have hb3 := backOf_le C b
          have hb2 : (((backOf C b).take k).filter (· == q)).length ≤ C.length := by
            have h1 := List.length_filter_le (· == q) ((backOf C b).take k)
            rw [List.length_take] at h1
            have h2 := backOf_le C b
            omega
          simp (disch := omega) only [go_sem, hbx6, hqx, hl6]
          refine handN_intro ((backOf C b).length - (k + 1)) (by omega) ⟨k + 1, by omega, rfl, rfl, ?_, fun x hx => by rw [set_ne _ _ _ hx]; exact hx6 x hx⟩
          simp only [set_self]
          congr 3
          apply List.map_congr_left
          intro p _
          rw [List.take_succ_eq_append_getElem hkl, hq]
          simp only [List.filter_append]
          by_cases e : p = q
          · subst e; rw [Up_self]; simp; omega
          · rw [Up_ne _ e]
            have : (q == p) = false := by simpa using fun h => e h.symm
            simp [this]
        · have hke : k = (backOf C b).length := by omega
          subst hke
          simp (disch := omega) only [go_sem]
          have f6 : Fr m5 m6 [bl] := fun x _ hx => hx6 x (by simpa using hx)
          have hnl : ∀ x, (x = bl ∨ x = bt) → ¬ InRows bb N fb x := fun x hx => by rcases hx with rfl | rfl <;> assumption
          refine handN_intro (N - (D.length + 1)) (by omega) ⟨D ++ [b], .slice wa (D.length + 1) wc, by simp, rfl, ⟨?_, hr5.frame f6 (fun x hx => by simp only [List.mem_singleton] at hx; subst hx; exact nl1), ?_, ?_, dov5, ?_, ?_, ?_, ?_, ?_⟩⟩
          · rw [hl6]
            congr 3
            apply List.map_congr_left
            intro p _
            rw [List.take_length]
            have := leftOf_told C D b hcb.1 p
            have e : ((leftOf C D p : Int) - (((backOf C b).filter (· == p)).length : Int)) = (leftOf C (D ++ [b]) p : Int) := by omega
            exact congrArg (Value.int .i64) e
          · rw [f6.get ht5 (by simpa using hbtl)]
            congr 3
            apply List.map_congr_left
            intro p _
            rw [ht]
            by_cases e : p = b
            · subst e; rw [Up_self]; simp [tof]
            · rw [Up_ne _ e]; simp [tof, e]
          · have := own5.frame f6 (fun x hx => by simpa using (dov5 x hx).2.1)
            simpa [efN] using this
          · exact fr5.trans f6 (fun x hx hne => by simp only [List.mem_singleton] at hx; subst hx; exact (hne hbl).elim)
          · intro p hp
            rcases List.mem_append.1 hp with h' | h'
            · exact Dlt p h'
            · simp only [List.mem_singleton] at h'; subst h'; exact hbN
          · exact clo_step hclo (hC ▸ hcb)
          · have e : tof (D ++ [b]) = Up (tof D) b 1 := by
              funext p
              by_cases e : p = b
              · subst e; rw [Up_self]; simp [tof]
              · rw [Up_ne _ e]; simp [tof, e]
            have hz : tof D b = 0 := by simp [tof, hcb.1]
            rw [e, cnt_up _ _ _ hz (by decide), if_pos hbN]
            simp; omega
          · intro r hr
            have := hpre _ (out_step hpt hclo hbN (hC ▸ hcb) (fun p hp hc => hmin p hp (hC ▸ hc)) hr)
            simpa using this
    · simp (disch := omega) only [go_sem]
      have hall : ∀ p, p < N → p ∈ D := fun p hp => by
        have hle := cnt_le (tof D) N
        have := cnt_full (tof D) N (by omega) p hp
        unfold tof at this
        exact Classical.byContradiction fun hn => this (if_neg hn)
      refine post_intro ⟨D.map (nodesOf n part), ?_, ?_, fr1⟩
      · have := hpre [] (out_end hpt hall)
        simpa using this
      · obtain ⟨a', c', e, hrd⟩ := ho1.rdIn (S := S) (fun x hx => hS x (dov x hx).1)
        cases e
        refine ⟨_, oc, D.map fN, by simp, by simp, hrd, fun k r hk => ?_⟩
        rw [List.getElem?_map] at hk ⊢
        cases hDk : D[k]? with
        | none => rw [hDk] at hk; cases hk
        | some p =>
          rw [hDk] at hk
          simp only [Option.map_some, Option.some.injEq] at hk ⊢
          subst hk
          have hpN := Dlt p (List.mem_of_getElem? hDk)
          exact ((hN.own p hpN).frame0 fr1).rdIn (hSN p hpN)
end Go.Fw
