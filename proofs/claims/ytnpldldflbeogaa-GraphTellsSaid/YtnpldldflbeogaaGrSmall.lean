import Derived.Test.YtnpldldflbeogaaGrChain
namespace Go.Fw
open Go.Proofs

/-- rows of numbers, as they were handed in -/
def ARows (m : Mem) (n : Nat) (ev : Value) (E : Nat → List Int) : Prop :=
  ∃ a c L, ev = .slice a n c ∧ n ≤ c ∧ L.length = n ∧ Rd1 m a L ∧ ∀ v, v < n → ∃ a' c', L[v]? = some (.slice a' (E v).length c') ∧ (E v).length ≤ c' ∧ Rd1 m a' (ints (E v))
/-- the law's own rows -/
structure Sm (m m' : Mem) (b k : Nat) (f : Nat → Value) (E : Nat → List Int) : Prop where
  hb : m b = none
  e : m' = m.set b (.cells (rv k f).toArray 26)
  row : ∀ u, u < k → ∃ a c, f u = .slice a (E u).length c ∧ (E u).length ≤ c ∧ (E u).length ≤ 30 ∧ Rd1 m a (ints (E u))
theorem Rd1.take {m : Mem} {a : Option Addr} {l : List Value} (h : Rd1 m a l) (k : Nat) : Rd1 m a (l.take k) := by
  rcases h with rfl | ⟨b, o, rfl, hc⟩
  · exact .inl (by simp)
  · refine .inr ⟨b, o, rfl, fun i v hv => hc i v ?_⟩
    rw [List.getElem?_take] at hv
    split at hv
    · exact hv
    · cases hv
theorem Sm.fr {m m' : Mem} {b k : Nat} {f : Nat → Value} {E : Nat → List Int} (h : Sm m m' b k f E) : Fr m m' [] := by rw [h.e]; exact Fr.new _ h.hb
theorem Sm.hrow {m m' : Mem} {b k : Nat} {f : Nat → Value} {E : Nat → List Int} (h : Sm m m' b k f E) : m' b = some (.cells (rv k f).toArray 26 (0, 0)) := by rw [h.e]; exact set_self _ _
theorem Sm.grd {m m' : Mem} {b k : Nat} {f : Nat → Value} {E : Nat → List Int} (h : Sm m m' b k f E) : GRd m' k (.slice (some ⟨b, 0, none⟩) k k) E :=
  ⟨_, _, rv k f, rfl, rv_len _ _, Rd1.lit h.hrow, fun v hv => by
    obtain ⟨a, c, e, _, h3, hr⟩ := h.row v hv
    exact ⟨by omega, a, c, by rw [rv_get _ _ _ hv, e], hr.frame h.fr⟩⟩

theorem small_spec (m : Mem) (n : Nat) (ev : Value) (E : Nat → List Int) (hg : ARows m n ev E) :
    MC Try.prog 11 [ev] m fun v m' => ∃ b k f E', k ≤ 24 ∧ v = .slice (some ⟨b, 0, none⟩) k k ∧ Sm m m' b k f E' := by
  obtain ⟨a, c, L, rfl, hnc, hL, hLr, hLv⟩ := hg
  refine MC_start Try.func11 small_ok (by kernel_rfl) (by simp [Try.f11]) ?_
  -- what stands behind the cut
  have key : ∀ (k c' : Nat) (Ev : Env), Ev.has 0 = true → Ev.get 0 = .slice a k c' → k ≤ 24 → k ≤ n → wpN Try.prog (.seq small_r3 (.seq (.seq small_r4 (.block 0 (.loop [0, 3, 4] small_l0))) (.seq small_r10 .ret))) (retP small_F.rvs (fun v m' => ∃ b k f E', k ≤ 24 ∧ v = .slice (some ⟨b, 0, none⟩) k k ∧ Sm m m' b k f E')) Ev m := by
    intro k c' Ev hE1 hE2 hk hkn
    simp (disch := omega) only [go_sem, hE1, hE2]
    refine newP_intro fun b hb => ?_
    simp (disch := omega) only [go_sem]
    refine loopQ_intro (fun g Ev m' => ∃ (i : Nat) (f : Nat → Value) (E' : Nat → List Int), i ≤ k ∧ g = k - i ∧ Ev = [(0, .slice a k c'), (3, .slice (some ⟨b, 0, none⟩) k k), (4, .int .i64 (i : Nat))] ∧
      m' = m.set b (.cells (rv k f).toArray 26) ∧ (∀ u, u < i → ∃ a c, f u = .slice a (E' u).length c ∧ (E' u).length ≤ c ∧ (E' u).length ≤ 30 ∧ Rd1 m a (ints (E' u)))) k rfl ⟨0, _, fun _ => [], by omega, by omega, by simp [only, Env.get, hE2], rfl, by omega⟩ ?_
    rintro g Ev m' ⟨i, f, E', hi, rfl, rfl, rfl, hf⟩
    simp (disch := omega) only [go_sem]

    refine condB_dec (p := (i:Int) < (k:Int)) (fun h => ?_) (fun h => ?_)
    · obtain ⟨b1, o1, rfl, hc1⟩ := hLr.at (i := i) (by omega)
      obtain ⟨a2, c2, e2, hle2, hr2⟩ := hLv i (by omega)
      rw [List.getElem?_eq_getElem (by omega), Option.some.injEq] at e2
      rw [e2] at hc1
      have hb1 : b1 ≠ b := fun e => by rw [e, hb] at hc1; cases hc1
      simp (disch := omega) only [go_sem, hc1, Up_self]
      refine condB_dec (fun h2 => ?_) (fun h2 => ?_)
      · simp (disch := omega) only [go_sem, Up_self]
        refine handN_intro (k - (i + 1)) (by omega) ⟨i + 1, _, Up E' i ((E i).take 30), by omega, rfl, rfl, rfl, fun u hu => ?_⟩
        by_cases e : u = i
        · subst e
          simp only [Up_self]
          refine ⟨a2, c2, ?_, ?_, ?_, ?_⟩
          · congr 1; simp; omega
          · simp; omega
          · simp; omega
          · have := hr2.take 30
            simpa [ints, List.map_take] using this
        · rw [Up_ne _ e, Up_ne _ e, Up_ne _ e]; exact hf u (by omega)
      · simp (disch := omega) only [go_sem, Up_self]
        refine handN_intro (k - (i + 1)) (by omega) ⟨i + 1, _, Up E' i (E i), by omega, rfl, rfl, rfl, fun u hu => ?_⟩
        by_cases e : u = i
        · subst e
          rw [Up_self, Up_self]
          exact ⟨a2, c2, rfl, hle2, by omega, hr2⟩
        · rw [Up_ne _ e, Up_ne _ e]; exact hf u (by omega)
    · have hk' : i = k := by omega
      subst hk'
      simp (disch := omega) only [go_sem]
      exact post_intro ⟨b, i, f, E', hk, rfl, hb, rfl, hf⟩
  generalize hR3 : small_r3 = R3 at key
  show wpN Try.prog (.seq small_r0 (.seq (.seq small_r1 (.cond (.slot 7) small_r2 .skip)) (.seq small_r3 _))) _ _ _
  rw [hR3]
  generalize hC : NC.seq R3 _ = C at key

  simp (disch := omega) only [go_sem]
  refine condB_dec (fun h => ?_) (fun h => ?_)
  · simp (disch := omega) only [go_sem]
    exact key 24 c _ rfl rfl (by omega) (by omega)
  · exact key n c _ rfl rfl (by omega) (by omega)
end Go.Fw
