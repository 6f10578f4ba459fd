import Derived.Test.YtnpldldflbeogaaGrRuns
namespace Go.Fw
open Go.Proofs

theorem tmod_bounds (a d : Int) (hd : 0 < d) : -d < a.tmod d ∧ a.tmod d < d := by
  refine ⟨?_, Int.tmod_lt_of_pos a hd⟩
  have h := Int.tmod_lt_of_pos (-a) hd
  rw [Int.neg_tmod] at h
  omega

theorem within_spec (m : Mem) (a lo hi : Int) (h0 : 0 ≤ lo) (h1 : lo ≤ hi) (h2 : hi ≤ 1000000) :
    MC Try.prog 16 [.int .i64 a, .int .i64 lo, .int .i64 hi] m fun v m' => (∃ k : Nat, v = .int .i64 (k : Nat) ∧ lo ≤ k ∧ (k : Int) ≤ hi) ∧ m' = m := by
  obtain ⟨b1, b2⟩ := tmod_bounds a (hi - lo + 1) (by omega)
  refine MC_start Try.func16 within_ok (by kernel_rfl) (by simp [Try.f16]) ?_
  simp (disch := omega) only [go_sem]
  refine condB_dec (fun h => ?_) (fun h => ?_)
  · simp (disch := omega) only [go_sem]
    refine post_intro ⟨⟨(lo + (a.tmod (hi - lo + 1) + hi - lo + 1)).toNat, ?_, by omega, by omega⟩, rfl⟩
    congr 1; omega
  · simp (disch := omega) only [go_sem]
    refine post_intro ⟨⟨(lo + a.tmod (hi - lo + 1)).toNat, ?_, by omega, by omega⟩, rfl⟩
    congr 1; omega
end Go.Fw
