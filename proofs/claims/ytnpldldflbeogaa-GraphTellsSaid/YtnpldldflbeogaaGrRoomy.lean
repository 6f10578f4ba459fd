import Derived.Test.YtnpldldflbeogaaGrRefParts
namespace Go.Fw
open Go.Proofs

def rg (l : List Int) (x : Int) (i : Nat) : Int := if i < l.length then l.getD i 0 else x
theorem ints_len (l : List Int) : (ints l).length = l.length := by simp [ints]
theorem ints_get (l : List Int) (i : Nat) (h : i < l.length) : (ints l)[i]? = some (.int .i64 (l.getD i 0)) := by
  simp [ints, h]
theorem cpy_row {P : Program} {x y : Value} {m : Mem} {K : Value → Mem → Prop} {l : Lk K} {l1 : Lk x} {l2 : Lk m} {b n c k c' : Nat} {a : Option Addr} {t : TypeId} {row news : List Value}
    (hx : x = .slice (some ⟨b, 0, none⟩) n c) (hy : y = .slice a k c') (hb : m b = some (.cells row.toArray t (0, 0))) (hn : Rd1 m a news) (hnl : news.length = k) (hk : k ≤ n) (hrl : n ≤ row.length) (h1 : ∀ v ∈ news, v.oneCell' = true)
    (hK : K (.int .i64 (k : Nat)) (m.set b (.cells (news ++ row.drop k).toArray t (0, 0)))) : cpyQ P 1 x y m K l l1 l2 := by
  subst hx hy
  refine ⟨news, ?_, ?_⟩
  · have := hn.ldS
    rw [Nat.min_eq_left hk, Nat.mul_one, ← hnl]; exact this
  · have := stCells_row (t := t) (b := b) (o := 0) news 0 m row hb (by omega) h1
    simp only [Nat.add_zero, List.take_zero, List.nil_append, Nat.zero_add, hnl] at this
    refine ⟨_, this, ?_⟩
    rw [Nat.min_eq_left hk]; exact hK

set_option maxHeartbeats 1000000 in
theorem roomy_spec (m : Mem) (a : Option Addr) (l : List Int) (c : Nat) (x : Int) (hl : l.length ≤ 1048576) (hr : Rd1 m a (ints l)) :
    MC Try.prog 12 [.slice a l.length c, .int .i64 x] m fun v m' => ∃ b, v = .slice (some ⟨b, 0, none⟩) (l.length + 80) (l.length + 80) ∧ m b = none ∧ m' = m.set b (.cells (ri (l.length + 80) (rg l x)).toArray 3 (0, 0)) := by
  refine MC_start Try.func12 roomy_ok (by kernel_rfl) (by simp [Try.f12]) ?_
  simp (disch := omega) only [go_sem]
  refine newP_intro fun b hb => ?_
  have htn : ((l.length : Int) + 80).toNat = l.length + 80 := by omega
  simp (disch := omega) only [go_sem, htn]
  refine cpy_row (k := l.length) rfl rfl (set_self _ _) (hr.frame (Fr.new [] hb)) (ints_len l) (by omega) (by rw [ri_len]; omega) (fun v hv => by
        simp only [ints, List.mem_map] at hv
        obtain ⟨y, _, rfl⟩ := hv; rfl) ?_
  have e : ints l ++ (ri (l.length + 80) fun _ => 0).drop l.length = ri (l.length + 80) (rg l 0) := by
    apply List.ext_getElem?
    intro i
    by_cases h : i < l.length
    · rw [List.getElem?_append_left (by rw [ints_len]; exact h), ri_get _ _ _ (by omega), ints_get _ _ h, rg, if_pos h]
    · rw [List.getElem?_append_right (by rw [ints_len]; omega), ints_len, List.getElem?_drop, show l.length + (i - l.length) = i from by omega]
      by_cases h2 : i < l.length + 80
      · rw [ri_get _ _ _ h2, ri_get _ _ _ h2, rg, if_neg h]
      · rw [List.getElem?_eq_none (by rw [ri_len]; omega), List.getElem?_eq_none (by rw [ri_len]; omega)]
  rw [e, set_set]
  simp (disch := omega) only [go_sem]
  refine loopQ_intro (fun g Ev m' => ∃ i f, i ≤ l.length + 80 ∧ l.length ≤ i ∧ g = l.length + 80 - i ∧ Ev = [(1, .int .i64 x), (5, .slice (some ⟨b, 0, none⟩) (l.length + 80) (l.length + 80)), (6, .int .i64 (i : Nat))] ∧ m' = m.set b (.cells (ri (l.length + 80) f).toArray 3 (0, 0)) ∧
    ∀ j, f j = if j < i then rg l x j else rg l 0 j) 80 rfl ⟨l.length, _, by omega, by omega, by omega, rfl, rfl, fun j => ?_⟩ ?_
  · unfold rg; split <;> simp [*]
  rintro g Ev m' ⟨i, f, hi, hi2, rfl, rfl, rfl, hf⟩
  simp (disch := omega) only [go_sem]
  refine condB_dec (fun h => ?_) (fun h => ?_)
  · simp (disch := omega) only [go_sem]
    refine handN_intro (l.length + 80 - (i + 1)) (by omega) ⟨i + 1, _, by omega, by omega, rfl, rfl, rfl, fun j => ?_⟩
    by_cases e : j = i
    · subst e
      rw [Up_self, if_pos (by omega)]; unfold rg; rw [if_neg (by omega)]
    · rw [Up_ne _ e, hf j]
      by_cases h2 : j < i
      · rw [if_pos h2, if_pos (by omega)]
      · rw [if_neg h2, if_neg (by omega)]
  · simp (disch := omega) only [go_sem]
    refine post_intro ⟨b, rfl, hb, ?_⟩
    congr 3
    apply List.map_congr_left
    intro j hj
    simp only [List.mem_range] at hj
    rw [hf j, if_pos (by omega)]

set_option maxHeartbeats 400000 in
theorem same1i_spec (a b : Option Addr) (l r : List Int) (c d : Nat) (m : Mem) (ha : Rd1 m a (ints l)) (hb : Rd1 m b (ints r)) (hl : l.length < 2 ^ 40) :
    MC Try.prog 19 [.slice a l.length c, .slice b r.length d] m fun v m' => v = .bool (decide (l = r)) ∧ m' = m := by
  refine MC_start Try.func19 same1_ok (by kernel_rfl) (by simp [Try.f19]) ?_
  simp (disch := omega) only [go_sem]
  refine condB_dec (fun h => ?_) (fun h => ?_)
  · simp (disch := omega) only [go_sem]
    exact post_intro ⟨by rw [decide_eq_false (fun e => h (by rw [e]))], rfl⟩
  · have h' : l.length = r.length := by omega
    simp (disch := omega) only [go_sem]
    refine loopQ_intro (fun n E m' => ∃ k, k ≤ l.length ∧ n = l.length - k ∧ E = [(0, .slice a l.length c), (1, .slice b r.length d), (5, .int .i64 (k : Nat))] ∧ m' = m ∧ l.take k = r.take k) l.length rfl ⟨0, by omega, by omega, rfl, rfl, rfl⟩ ?_
    rintro n E m' ⟨k, hk, rfl, rfl, rfl, hpre⟩
    simp (disch := omega) only [go_sem]
    refine condB_dec (fun h => ?_) (fun h => ?_)
    · have hlt : k < l.length := by omega
      obtain ⟨b1, o1, rfl, hc1⟩ := ha.at (i := k) (by simpa [ints] using hlt)
      obtain ⟨b2, o2, rfl, hc2⟩ := hb.at (i := k) (by simp [ints]; omega)
      simp only [ints, List.getElem_map] at hc1 hc2
      simp (disch := omega) only [go_sem, hc1, hc2]
      refine condB_dec (fun h => ?_) (fun h => ?_)
      · simp (disch := omega) only [go_sem]
        exact post_intro ⟨by rw [decide_eq_false (fun e => h (by simp [e]))], rfl⟩
      · simp (disch := omega) only [go_sem]
        exact handN_intro (l.length - (k + 1)) (by omega) ⟨k + 1, by omega, rfl, rfl, rfl, take_ext hpre hlt (by omega) (by omega)⟩
    · simp (disch := omega) only [go_sem]
      refine post_intro ⟨?_, rfl⟩
      rw [decide_eq_true]
      rw [List.take_of_length_le (by omega), List.take_of_length_le (by omega)] at hpre
      exact hpre

theorem rg_rd {m : Mem} {b : Nat} {l : List Int} {x : Int} (hb : m b = some (.cells (ri (l.length + 80) (rg l x)).toArray 3 (0, 0))) : Rd1 m (some ⟨b, 0, none⟩) (ints l) :=
  .inr ⟨b, 0, rfl, fun i v hv => by
    have hi : i < l.length := by have := (List.getElem?_eq_some_iff.1 hv).1; rwa [ints_len] at this
    rw [hb, cellAt_cells, List.getElem?_toArray, Nat.zero_add, ri_get _ _ _ (by omega), rg, if_pos hi]
    rw [ints_get _ _ hi] at hv; exact hv⟩

set_option maxHeartbeats 1000000 in
theorem intact_spec (m : Mem) (b : Nat) (a : Option Addr) (l : List Int) (c : Nat) (x : Int) (hl : l.length ≤ 1048576) (hb : m b = some (.cells (ri (l.length + 80) (rg l x)).toArray 3 (0, 0))) (hr : Rd1 m a (ints l)) :
    MC Try.prog 13 [.slice (some ⟨b, 0, none⟩) (l.length + 80) (l.length + 80), .slice a l.length c, .int .i64 x] m fun v m' => v = .bool true ∧ m' = m := by
  refine MC_start Try.func13 intact_ok (by kernel_rfl) (by simp [Try.f13]) ?_
  simp (disch := omega) only [go_sem, dec_f, undef, if_false, Bool.false_eq_true]
  refine call_with (same1i_spec _ _ l l _ _ m (rg_rd hb) hr (by omega)) ?_
  rintro v m' ⟨rfl, rfl⟩
  simp (disch := omega) only [go_sem, dec_f, undef, if_false, Bool.false_eq_true, decide_true, Bool.not_true]
  refine loopQ_intro (fun g Ev m2 => ∃ i, i ≤ l.length + 80 ∧ l.length ≤ i ∧ g = l.length + 80 - i ∧ Ev = [(0, .slice (some ⟨b, 0, none⟩) (l.length + 80) (l.length + 80)), (2, .int .i64 x), (7, .int .i64 (i : Nat))] ∧ m2 = m') 80 rfl ⟨l.length, by omega, by omega, by omega, rfl, rfl⟩ ?_
  rintro g Ev m2 ⟨i, hi, hi2, rfl, rfl, rfl⟩
  simp (disch := omega) only [go_sem]
  refine condB_dec (fun h => ?_) (fun h => ?_)
  · have hx : rg l x i = x := by unfold rg; rw [if_neg (by omega)]
    simp (disch := omega) only [go_sem, hb, hx, dec_f]
    exact handN_intro (l.length + 80 - (i + 1)) (by omega) ⟨i + 1, by omega, by omega, rfl, rfl, rfl⟩
  · simp (disch := omega) only [go_sem]
    exact post_intro ⟨rfl, rfl⟩
end Go.Fw
