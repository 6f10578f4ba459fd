import Derived.Test.YtncllenandjphaaInSort
namespace Go.Fw
open Go.Proofs
theorem fresh_fr {m m' : Mem} (f : Fr m m' []) {b : Nat} (h : m' b = none) : m b = none := by
  cases hb : m b with
  | none => rfl
  | some o => rw [f.get0 hb] at h; cases h

set_option maxHeartbeats 400000 in
theorem list_spec {m : Mem} {v : Value} {sb r : Nat} {l : List (Int × Int)} (h : SetIs m v sb r l) (hl : l.length < 1000000000) :
    MC Try.prog 12 [v] m fun u m' => ∃ l', l'.Perm l ∧ Asc l' ∧ Own m' 25 2 u l'.length (prs l') ∧ Fr m m' [] ∧ ∀ b ∈ blkOf u, m b = none := by
  have hnd := h.nd
  obtain ⟨rfl, hb, hm⟩ := h
  refine MC_start Try.func12 list__ok (by kernel_rfl) (by simp [Try.f12]) ?_
  simp (disch := omega) only [go_sem, hb]
  refine rng_own hm fun it N hit hI f1 => ?_
  simp (disch := omega) only [go_sem]
  refine loopQ_intro (fun n E m' => ∃ u done, n = l.length - done.length ∧ E = [(3, u), (9, .pointer (some ⟨it, 0, none⟩))] ∧ IterIs ip m' it r (un l) done ∧ Own m' 25 2 u done.length (prs done) ∧
    Fr m m' [] ∧ (∀ b ∈ blkOf u, m b = none ∧ b ≠ it)) l.length rfl ⟨_, [], rfl, rfl, hI, Own.nil _ _ _, f1, fun b hb => by simp [blkOf, Env.get] at hb⟩ ?_
  clear hI f1
  rintro n E m' ⟨u, done, rfl, rfl, hI, ho, f, hfr⟩
  have hdl : done.length ≤ l.length := by
    obtain ⟨es, c, seen, _, hh, _, hd, hsub, _⟩ := hI
    rw [keys_un] at hsub
    exact hd.length_le_of_subset hsub
  simp (disch := omega) only [go_sem]
  refine nxt_own ip_enc hI (fun hperm => ?_) (fun k w N hkw hk hI2 hent f2 hnone => ?_)
  · rw [keys_un] at hperm
    simp (disch := omega) only [go_sem]
    have hdn : done.Nodup := hperm.nodup_iff.1 hnd
    refine call_with (sort_spec ho hdn (by omega)) ?_
    rintro x m2 ⟨rfl, l', hp, hasc, ho2, f3⟩
    simp (disch := omega) only [go_sem]
    refine ⟨l', hp.trans hperm.symm, hasc, ho2, f.trans f3 (fun x hx hx0 => absurd (hfr x hx).1 hx0), fun b hb => (hfr b hb).1⟩
  · have hI2l : (done ++ [k]).length ≤ l.length := by
      obtain ⟨es, c, seen, _, hh, _, hd, hsub, _⟩ := hI2
      rw [keys_un] at hsub
      exact hd.length_le_of_subset hsub
    simp only [List.length_append, List.length_cons, List.length_nil] at hI2l
    simp (disch := omega) only [go_sem, hent]
    refine newP_intro fun b2 hb2 => ?_
    simp (disch := omega) only [go_sem, ip]
    refine newP_intro fun b3 hb3 => ?_
    have g1 : Fr N (N.set b2 (Obj.cells #[.int .i64 k.1, .int .i64 k.2] 25)) [] := Fr.new _ hb2
    have g2 := Fr.new (o := Obj.cells #[.int .i64 k.1, .int .i64 k.2] 25) [] hb3
    have g12 := g1.trans0 g2
    have h3 := set_self (m := N.set b2 (Obj.cells #[.int .i64 k.1, .int .i64 k.2] 25)) b3 (Obj.cells #[.int .i64 k.1, .int .i64 k.2] 25)
    have hb3' := new_of hb3
    simp (disch := omega) only [go_sem]
    generalize (N.set b2 (Obj.cells #[.int .i64 k.1, .int .i64 k.2] 25)).set b3 (Obj.cells #[.int .i64 k.1, .int .i64 k.2] 25) = N2 at g12 h3 ⊢
    clear g1 g2
    have fall : Fr m' N2 [it] := f2.trans g12 (fun x hx => by cases hx)
    have hitm : it ∉ blkOf u := fun h => (hfr it h).2 rfl
    have ho2 := ho.frame fall (fun b hb h => (hfr b hb).2 (by simpa using h))
    have hin : m' it ≠ none := hI.there
    have fm : Fr m N2 [] := f.trans fall (fun x hx hx0 => by simp at hx; subst hx; exact absurd hit hx0)
    refine app_own (k := 1) ho2 rfl (news := [.int .i64 k.1, .int .i64 k.2]) ?_ rfl (by intro v hv; simp at hv; rcases hv with rfl | rfl <;> rfl) rfl (by omega) (by omega) ?_
    · simp only [ldS]
      rw [ldCells_row (l := [.int .i64 k.1, .int .i64 k.2]) h3 2 0 0 (by simp)]; rfl
    · intro u2 N3 ho3 f3 hblk
      simp (disch := omega) only [go_sem]
      have hI3 : IterIs ip N3 it r (un l) (done ++ [k]) := by
        refine (hI2.frame g12 (by simp) (by simp)).frame f3 hitm ?_
        intro hr
        obtain ⟨es, c, hmr, _⟩ := hm
        have := (hfr r hr).1
        rw [hmr] at this; cases this
      have hblk' : ∀ b ∈ blkOf u2, m b = none ∧ b ≠ it := fun b hb => by
        rcases hblk b hb with h | h
        · exact hfr b h
        · refine ⟨fresh_fr fm h, ?_⟩
          rintro rfl
          exact hI2.frame g12 (by simp) (by simp) |>.there h
      refine handN_intro (l.length - (done.length + 1)) (by omega) ⟨u2, done ++ [k], by simp, rfl, hI3, ?_, fm.trans f3 (fun x hx hx0 => absurd (hfr x hx).1 hx0), hblk'⟩
      rw [List.length_append, prs_app]; exact ho3
end Go.Fw
