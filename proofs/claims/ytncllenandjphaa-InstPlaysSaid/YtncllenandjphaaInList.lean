import Derived.Test.YtncllenandjphaaInSet
namespace Go.Fw
open Go.Proofs
/-- a row of instances, cell by cell -/
def prs (l : List (Int × Int)) : List Value := l.flatMap fun p => [.int .i64 p.1, .int .i64 p.2]
theorem prs_nil : prs [] = [] := rfl
theorem prs_cons (p : Int × Int) (l : List (Int × Int)) : prs (p :: l) = .int .i64 p.1 :: .int .i64 p.2 :: prs l := rfl
theorem prs_app (l r : List (Int × Int)) : prs (l ++ r) = prs l ++ prs r := by simp [prs]
theorem prs_len (l : List (Int × Int)) : (prs l).length = l.length * 2 := by
  induction l with
  | nil => rfl
  | cons p r ih => rw [prs_cons, List.length_cons, List.length_cons, List.length_cons, ih]; omega
theorem prs_get : ∀ (l : List (Int × Int)) (i : Nat) (h : i < l.length), (prs l)[i * 2]? = some (.int .i64 l[i].1) ∧ (prs l)[i * 2 + 1]? = some (.int .i64 l[i].2)
  | [], i, h => by simp at h
  | p :: r, 0, h => ⟨rfl, rfl⟩
  | p :: r, i + 1, h => by
    have := prs_get r i (by simpa using h)
    rw [prs_cons, show (i + 1) * 2 = i * 2 + 1 + 1 from by omega]
    simpa using this
/-- a slice that reads as the instances l -/
def RdP (m : Mem) (v : Value) (l : List (Int × Int)) : Prop := ∃ a c, v = .slice a l.length c ∧ Rd1 m a (prs l)
theorem Rd1.pair {m : Mem} {a : Option Addr} {l : List (Int × Int)} (h : Rd1 m a (prs l)) {i : Nat} (hi : i < l.length) :
    ∃ b o, a = some ⟨b, o, none⟩ ∧ cellAt (m b) (o + i * 2) = some (.int .i64 l[i].1) ∧ cellAt (m b) (o + i * 2 + 1) = some (.int .i64 l[i].2) := by
  rcases h with h | ⟨b, o, rfl, hc⟩
  · have := prs_len l; rw [h] at this; simp at this; omega
  · have := prs_get l i hi
    exact ⟨b, o, rfl, hc _ _ this.1, by rw [Nat.add_assoc]; exact hc _ _ this.2⟩
theorem Own.rdp {m : Mem} {t : TypeId} {v : Value} {l : List (Int × Int)} (h : Own m t 2 v l.length (prs l)) : RdP m v l := by
  rcases h.2 with ⟨rfl, h0⟩ | ⟨b, cap, tail, rfl, hb, hl⟩
  · exact ⟨none, 0, by rw [h0], .inl (List.eq_nil_of_length_eq_zero (by rw [prs_len]; omega))⟩
  · refine ⟨some ⟨b, 0, none⟩, cap, rfl, .inr ⟨b, 0, rfl, fun i x hx => ?_⟩⟩
    rw [hb, cellAt_cells]
    have := (List.getElem?_eq_some_iff.1 hx).1
    simp only [Nat.zero_add, List.getElem?_toArray]
    rw [List.getElem?_append_left this]; exact hx
theorem RdP.frame {m m' : Mem} {v : Value} {l : List (Int × Int)} (h : RdP m v l) (f : Fr m m' []) : RdP m' v l := by
  obtain ⟨a, c, e, hr⟩ := h; exact ⟨a, c, e, hr.frame f⟩
theorem take_ext {α : Type} {l r : List α} {k : Nat} (h : l.take k = r.take k) (h1 : k < l.length) (h2 : k < r.length) (he : l[k] = r[k]) : l.take (k + 1) = r.take (k + 1) := by
  rw [List.take_succ_eq_append_getElem h1, List.take_succ_eq_append_getElem h2, h, he]

set_option maxHeartbeats 400000 in
theorem same_spec (u v : Value) (l r : List (Int × Int)) (m : Mem) (hu : RdP m u l) (hv : RdP m v r) (hl : l.length < 2 ^ 40) (hr : r.length < 2 ^ 40) :
    MC Try.prog 11 [u, v] m fun v m' => v = .bool (decide (l = r)) ∧ m' = m := by
  obtain ⟨a, c, rfl, ha⟩ := hu
  obtain ⟨b, d, rfl, hb⟩ := hv
  refine MC_start Try.func11 same__ok (by kernel_rfl) (by simp [Try.f11]) ?_
  simp (disch := omega) only [go_sem]
  refine condB_dec (fun h => ?_) (fun h => ?_)
  · simp (disch := omega) only [go_sem]
    exact ⟨by rw [decide_eq_false (fun e => h (by rw [e]))], rfl⟩
  · have h' : l.length = r.length := by omega
    simp (disch := omega) only [go_sem]
    refine loopQ_intro (fun n E m' => ∃ k, k ≤ l.length ∧ n = l.length - k ∧ E = [(0, .slice a l.length c), (1, .slice b r.length d), (5, .int .i64 (k : Nat))] ∧ m' = m ∧ l.take k = r.take k) l.length rfl ⟨0, by omega, by omega, rfl, rfl, rfl⟩ ?_
    rintro n E m' ⟨k, hk, rfl, rfl, rfl, hpre⟩
    simp (disch := omega) only [go_sem]
    refine condB_dec (fun h => ?_) (fun h => ?_)
    · have hlt : k < l.length := by omega
      have hlt2 : k < r.length := by omega
      obtain ⟨b1, o1, rfl, hc1, hd1⟩ := ha.pair hlt
      obtain ⟨b2, o2, rfl, hc2, hd2⟩ := hb.pair hlt2
      simp (disch := omega) only [go_sem, hc1, hc2, hd1, hd2]
      by_cases e : l[k] = r[k]
      · simp (disch := omega) only [go_sem, e, decide_true, Bool.not_true, if_true]
        exact handN_intro (l.length - (k + 1)) (by omega) ⟨k + 1, by omega, rfl, rfl, rfl, take_ext hpre hlt (by omega) e⟩
      · have e3 : (decide (l[k].1 = r[k].1) && decide (l[k].2 = r[k].2)) = false := by
          rw [Bool.eq_false_iff]; intro h; simp at h; exact e (Prod.ext h.1 h.2)
        simp (disch := omega) only [go_sem, e3, Bool.not_false, if_true]
        exact ⟨by rw [decide_eq_false (fun e' => e (by simp [e']))], rfl⟩
    · simp (disch := omega) only [go_sem]
      refine ⟨?_, rfl⟩
      rw [decide_eq_true]
      rw [List.take_of_length_le (by omega), List.take_of_length_le (by omega)] at hpre
      exact hpre

def addAll (l : List (Int × Int)) : List (Int × Int) := l.foldl addL []
theorem addAll_take {l : List (Int × Int)} {k : Nat} (h : k < l.length) : addAll (l.take (k + 1)) = addL (addAll (l.take k)) l[k] := by
  rw [List.take_succ_eq_append_getElem h, addAll, List.foldl_append]; rfl

set_option maxHeartbeats 400000 in
theorem new_spec (u : Value) (l : List (Int × Int)) (m : Mem) (hu : RdP m u l) (hl : l.length < 2 ^ 40) :
    MC Try.prog 8 [u] m fun v m' => ∃ sb r, SetIs m' v sb r (addAll l) ∧ Fr m m' [] ∧ m sb = none ∧ m r = none := by
  obtain ⟨a, c, rfl, ha⟩ := hu
  refine MC_start Try.func8 new__ok (by kernel_rfl) (by simp [Try.f8]) ?_
  simp (disch := omega) only [go_sem]
  refine newP_intro fun r hr => ?_
  have f1 : Fr m (m.set r (.map #[] 0)) [] := Fr.new _ hr
  have hm0 := MapIs.new ip m r
  generalize m.set r (.map #[] 0) = M at f1 hm0 ⊢
  simp (disch := omega) only [go_sem]
  refine newP_intro fun sb hsb => ?_
  have f2 : Fr M (M.set sb (.cells #[.map (some r)] 50)) [] := Fr.new _ hsb
  have hset : SetIs (M.set sb (.cells #[.map (some r)] 50)) (.pointer (some ⟨sb, 0, none⟩)) sb r [] := ⟨rfl, set_self _ _, hm0.frame f2 (by simp)⟩
  have hsb0 : m sb = none := by
    cases h : m sb with
    | none => rfl
    | some o => rw [f1.get0 h] at hsb; cases hsb
  have f12 := f1.trans0 f2
  clear hm0 f1 f2 hsb
  generalize M.set sb (.cells #[.map (some r)] 50) = N at f12 hset ⊢
  simp (disch := omega) only [go_sem]
  refine loopQ_intro (fun n E m' => ∃ k, k ≤ l.length ∧ n = l.length - k ∧ E = [(3, .pointer (some ⟨sb, 0, none⟩)), (9, .slice a l.length c), (10, .int .i64 l.length), (11, .int .i64 (k : Nat))] ∧
    SetIs m' (.pointer (some ⟨sb, 0, none⟩)) sb r (addAll (l.take k)) ∧ Fr m m' []) l.length rfl ⟨0, by omega, by omega, rfl, hset, f12⟩ ?_
  clear hset f12
  rintro n E m' ⟨k, hk, rfl, rfl, hset, f⟩
  simp (disch := omega) only [go_sem]
  refine condB_dec (fun h => ?_) (fun h => ?_)
  · have hlt : k < l.length := by omega
    obtain ⟨b1, o1, rfl, hc1, hd1⟩ := (ha.frame f).pair hlt
    simp (disch := omega) only [go_sem, hc1, hd1]
    refine newP_intro fun b2 hb2 => ?_
    have f2 : Fr m' (m'.set b2 (.cells #[.int .i64 l[k].1, .int .i64 l[k].2] 25)) [] := Fr.new _ hb2
    have h2 := set_self (m := m') b2 (.cells #[.int .i64 l[k].1, .int .i64 l[k].2] 25)
    simp (disch := omega) only [go_sem]
    generalize m'.set b2 (.cells #[.int .i64 l[k].1, .int .i64 l[k].2] 25) = N at f2 h2 ⊢
    have hset2 := hset.frame f2 (by simp) (by simp)
    have hbox := hset2.box
    simp (disch := omega) only [go_sem, h2, hbox]
    refine mup_own (k := l[k]) ip_enc hset2.map fun N2 hmN f3 _ => ?_
    rw [upd_un, ← addAll_take hlt] at hmN
    simp (disch := omega) only [go_sem]
    refine handN_intro (l.length - (k + 1)) (by omega) ⟨k + 1, by omega, rfl, rfl, ⟨rfl, f3.get hbox (by simpa using hset.ne), hmN⟩, ?_⟩
    exact (f.trans0 f2).trans f3 (fun x hx hx0 => by simp at hx; subst hx; exact absurd hr hx0)
  · simp (disch := omega) only [go_sem]
    rw [List.take_of_length_le (by omega)] at hset
    exact ⟨sb, r, hset, f, hsb0, hr⟩
end Go.Fw
