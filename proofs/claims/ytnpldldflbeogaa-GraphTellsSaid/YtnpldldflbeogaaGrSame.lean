import Derived.Test.YtnpldldflbeogaaGrParts
namespace Go.Fw
open Go.Proofs
theorem take_ext {α : Type} {l r : List α} {k : Nat} (h : l.take k = r.take k) (h1 : k < l.length) (h2 : k < r.length) (he : l[k] = r[k]) : l.take (k + 1) = r.take (k + 1) := by
  rw [List.take_succ_eq_append_getElem h1, List.take_succ_eq_append_getElem h2, h, he]

set_option maxHeartbeats 400000 in
theorem same1_spec (a b : Option Addr) (l r : List Nat) (c d : Nat) (m : Mem) (ha : Rd1 m a (nats l)) (hb : Rd1 m b (nats r)) (hl : l.length < 2 ^ 40) (hr : r.length < 2 ^ 40) :
    MC Try.prog 19 [.slice a l.length c, .slice b r.length d] m fun v m' => v = .bool (decide (l = r)) ∧ m' = m := by
  refine MC_start Try.func19 same1_ok (by kernel_rfl) (by simp [Try.f19]) ?_
  simp (disch := omega) only [go_sem]
  refine condB_dec (fun h => ?_) (fun h => ?_)
  · simp (disch := omega) only [go_sem]
    exact post_intro ⟨by rw [decide_eq_false (fun e => h (by rw [e]))], rfl⟩
  · have h' : l.length = r.length := by omega
    simp (disch := omega) only [go_sem]
    refine loopQ_intro (fun n E m' => ∃ k, k ≤ l.length ∧ n = l.length - k ∧ E = [(0, .slice a l.length c), (1, .slice b r.length d), (5, .int .i64 (k : Nat))] ∧ m' = m ∧ l.take k = r.take k) l.length rfl ⟨0, by omega, by omega, rfl, rfl, rfl⟩ ?_
    rintro n E m' ⟨k, hk, rfl, rfl, rfl, hpre⟩
    simp (disch := omega) only [go_sem]
    refine condB_dec (fun h => ?_) (fun h => ?_)
    · have hlt : k < l.length := by omega
      obtain ⟨b1, o1, rfl, hc1⟩ := ha.at (i := k) (by simpa [nats] using hlt)
      obtain ⟨b2, o2, rfl, hc2⟩ := hb.at (i := k) (by simp [nats]; omega)
      simp only [nats, List.getElem_map] at hc1 hc2
      simp (disch := omega) only [go_sem, hc1, hc2]
      refine condB_dec (fun h => ?_) (fun h => ?_)
      · simp (disch := omega) only [go_sem]
        exact post_intro ⟨by rw [decide_eq_false (fun e => h (by simp [e]))], rfl⟩
      · simp (disch := omega) only [go_sem]
        exact handN_intro (l.length - (k + 1)) (by omega) ⟨k + 1, by omega, rfl, rfl, rfl, take_ext hpre hlt (by omega) (by omega)⟩
    · simp (disch := omega) only [go_sem]
      refine post_intro ⟨?_, rfl⟩
      rw [decide_eq_true]
      rw [List.take_of_length_le (by omega), List.take_of_length_le (by omega)] at hpre
      exact hpre

set_option maxHeartbeats 400000 in
theorem same2_spec (a b : Value) (l r : List (List Nat)) (m : Mem) (ha : RdRows m a l) (hb : RdRows m b r) (hl : l.length < 2 ^ 40) (hr : r.length < 2 ^ 40) (hl' : ∀ x ∈ l, x.length < 2 ^ 40) (hr' : ∀ x ∈ r, x.length < 2 ^ 40) :
    MC Try.prog 10 [a, b] m fun v m' => v = .bool (decide (l = r)) ∧ m' = m := by
  obtain ⟨a, c, L, rfl, hL, hLr, hLv⟩ := ha
  obtain ⟨b, d, R, rfl, hR, hRr, hRv⟩ := hb
  refine MC_start Try.func10 same2_ok (by kernel_rfl) (by simp [Try.f10]) ?_
  simp (disch := omega) only [go_sem]
  refine condB_dec (fun h => ?_) (fun h => ?_)
  · simp (disch := omega) only [go_sem]
    exact post_intro ⟨by rw [decide_eq_false (fun e => h (by rw [e]))], rfl⟩
  · have h' : l.length = r.length := by omega
    simp (disch := omega) only [go_sem]
    refine loopQ_intro (fun n E m' => ∃ k, k ≤ l.length ∧ n = l.length - k ∧ E = [(0, .slice a l.length c), (1, .slice b r.length d), (5, .int .i64 (k : Nat))] ∧ m' = m ∧ l.take k = r.take k) l.length rfl ⟨0, by omega, by omega, rfl, rfl, rfl⟩ ?_
    rintro n E m' ⟨k, hk, rfl, rfl, rfl, hpre⟩
    simp (disch := omega) only [go_sem]
    refine condB_dec (fun h => ?_) (fun h => ?_)
    · have hlt : k < l.length := by omega
      have hlt2 : k < r.length := by omega
      obtain ⟨b1, o1, rfl, hc1⟩ := hLr.at (i := k) (by omega)
      obtain ⟨b2, o2, rfl, hc2⟩ := hRr.at (i := k) (by omega)
      obtain ⟨x1, c1, e1, rd1⟩ := hLv k l[k] (List.getElem?_eq_getElem hlt)
      obtain ⟨x2, c2, e2, rd2⟩ := hRv k r[k] (List.getElem?_eq_getElem hlt2)
      rw [List.getElem?_eq_getElem (by omega), Option.some.injEq] at e1 e2
      rw [e1] at hc1
      rw [e2] at hc2
      simp (disch := omega) only [go_sem, hc1, hc2]
      refine call_with (same1_spec x1 x2 l[k] r[k] c1 c2 m' rd1 rd2 (hl' _ (List.getElem_mem _)) (hr' _ (List.getElem_mem _))) ?_
      rintro v m2 ⟨rfl, rfl⟩
      simp (disch := omega) only [go_sem]
      by_cases e : l[k] = r[k]
      · have e3 : (!decide (l[k] = r[k])) = false := by rw [decide_eq_true e]; rfl
        simp (disch := omega) only [go_sem, e3]
        exact handN_intro (l.length - (k + 1)) (by omega) ⟨k + 1, by omega, rfl, rfl, rfl, take_ext hpre hlt hlt2 e⟩
      · have e3 : (!decide (l[k] = r[k])) = true := by rw [decide_eq_false e]; rfl
        simp (disch := omega) only [go_sem, e3]
        exact post_intro ⟨by rw [decide_eq_false (fun e' => e (by simp [e']))], rfl⟩
    · simp (disch := omega) only [go_sem]
      refine post_intro ⟨?_, rfl⟩
      rw [decide_eq_true]
      rw [List.take_of_length_le (by omega), List.take_of_length_le (by omega)] at hpre
      exact hpre
end Go.Fw
