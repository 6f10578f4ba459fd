import Derived.Test.YtnpldldflbeogaaGrStart
import Derived.Test.YtnpldldflbeogaaGrOrder
namespace Go.Fw
open Go.Proofs

theorem parts_long (m : Mem) (a : Option Addr) (n c : Nat) (h : 512 < n) :
    MC Try.prog 9 [.slice a n c] m fun v m' => v = .tuple #[.slice none 0 0, .int .i64 2] ∧ m' = m := by
  refine MC_start Try.func9 parts_ok (by kernel_rfl) (by simp [Try.f9]) ?_
  simp (disch := omega) only [go_sem]
  exact post_intro ⟨rfl, rfl⟩

theorem nodesTo_succ (part : Nat → Nat) (v : Nat) : (fun p => (List.range (v + 1)).filter fun u => part u == p) = Up (fun p => (List.range v).filter fun u => part u == p) (part v) (((List.range v).filter fun u => part u == part v) ++ [v]) := by
  funext p
  rw [List.range_succ, List.filter_append]
  by_cases e : p = part v
  · subst e; rw [Up_self]; simp
  · rw [Up_ne _ e]
    have : (part v == p) = false := by simpa using fun h => e h.symm
    simp [this]

set_option maxHeartbeats 4000000 in
theorem parts_spec (m : Mem) (n : Nat) (ev : Value) (E : Nat → List Int) (hn : n ≤ 512) (hg : GRd m n ev E) :
    MC Try.prog 9 [ev] m fun v m' => ∃ w l, v = .tuple #[w, .int .i64 0] ∧ Out n E (fun _ => False) l ∧ RdIn m' w l (fun x => m x = none) ∧ Fr m m' [] := by
  have hg0 := hg
  obtain ⟨ea, ec, L, rfl, hL, hLr, hLv⟩ := hg
  refine MC_start Try.func9 parts_ok (by kernel_rfl) (by simp [Try.f9]) ?_
  show wpN Try.prog (.seq parts_r0 (.seq parts_r1 (.seq (.seq parts_r2 (.cond (.slot 13) (.seq parts_r3 .ret) .skip)) (.seq parts_r4 (.seq (.seq parts_r5 (.block 0 (.loop [0, 5, 25, 26] parts_l0))) (.seq parts_r11 (.seq (.seq parts_r12 (.block 2 (.loop [0, 5, 7, 49, 50, 51] parts_l1))) (.seq parts_r17 .ret)))))))) _ _ _
  generalize hR4 : parts_r4 = R4
  simp (disch := omega) only [go_sem]
  rw [← hR4]
  refine parts_r4_ok m n ea ec hn _ _ ?_
  clear hR4 R4
  rintro B m1 ⟨w1, fresh1, fr1⟩
  simp (disch := omega) only [go_sem]
  refine loopQ_intro (fun g Ev m' => ∃ v r0 s, v ≤ n ∧ g = n - v ∧ Ev = [(0, .slice ea n ec), (5, .pointer (some ⟨B.w, 0, none⟩)), (25, .int .i64 (n : Nat)), (26, .int .i64 (v : Nat))] ∧
    WRep m' n (.slice ea n ec) B r0 s ∧ J n E s [] ∧ (∀ b ∈ B.all r0, m b = none) ∧ Fr m m' [] ∧ ∀ u, u < v → s.idx u ≠ 0) n rfl ⟨0, _, _, by omega, by omega, rfl, w1, J.start n E _ _, fresh1, fr1, by omega⟩ ?_
  clear w1 fresh1 fr1 m1
  rintro g Ev m1 ⟨v, rw0, s, hv, rfl, rfl, w1, j1, fresh1, fr1, hvis⟩
  have hw1 := w1.hw
  have hi1 := w1.hi
  simp (disch := omega) only [go_sem]
  refine condB_dec (fun h => ?_) (fun h => ?_)
  · have hvn : v < n := by omega
    simp (disch := omega) only [go_sem, hw1, hi1]
    refine condB_dec (fun h0 => ?_) (fun h0 => ?_)
    · simp (disch := omega) only [go_sem]
      refine call_with (from_spec m m1 n _ E B rw0 s v hn hg0 w1 j1 fresh1 fr1 hvn h0) ?_
      rintro r m2 ⟨rfl, rv2, s2, w2, j2, fresh2, fr2, hv2, hm2⟩
      simp (disch := omega) only [go_sem]
      exact handN_intro (n - (v + 1)) (by omega) ⟨v + 1, rv2, s2, by omega, rfl, rfl, w2, j2, fresh2, fr2, fun u hu => by
        by_cases e : u = v
        · subst e; exact hv2
        · exact hm2 u (hvis u (by omega))⟩
    · simp (disch := omega) only [go_sem]
      exact handN_intro (n - (v + 1)) (by omega) ⟨v + 1, rw0, s, by omega, rfl, rfl, w1, j1, fresh1, fr1, fun u hu => by
        by_cases e : u = v
        · subst e; exact h0
        · exact hvis u (by omega)⟩
  · have hve : n = v := by omega
    subst hve
    obtain ⟨hpt, hri, hpart⟩ := j1.parts hvis
    have hp1 := w1.hp
    rw [hri] at hp1
    obtain ⟨part, hpd⟩ : ∃ part : Nat → Nat, part = fun v => (s.part v).toNat := ⟨_, rfl⟩
    have hp1 : m1 B.p = some (.cells (ri n (fun v => (part v : Int))).toArray 3 (0, 0)) := by rw [hpd]; exact hp1
    rw [← hpd] at hpt
    obtain ⟨N, hN⟩ : ∃ N, N = s.many := ⟨_, rfl⟩
    rw [← hN] at hw1 hpt
    have hNn := hpt.small
    have hpw : B.p ≠ B.w := fun e => w1.d.2.2.2.1 e.symm
    have mw : m B.w = none := fresh1 _ (by simp [WB.all])
    have mp : m B.p = none := fresh1 _ (by simp [WB.all])
    simp (disch := omega) only [go_sem, hw1]
    refine newP_intro fun bN hbN => ?_
    have f2 : Fr m1 (m1.set bN (.cells (rv N fun _ => .slice none 0 0).toArray 26)) [] := Fr.new _ hbN
    have hw2 := f2.get0 hw1
    have hp2 := f2.get0 hp1
    have hNw : bN ≠ B.w := fun e => by rw [e, hw1] at hbN; cases hbN
    have hNp : bN ≠ B.p := fun e => by rw [e, hp1] at hbN; cases hbN
    have hmN : m bN = none := by
      cases h' : m bN with
      | none => rfl
      | some o => rw [fr1.get0 h'] at hbN; cases hbN
    simp (disch := omega) only [go_sem, hw2]
    refine loopQ_intro (fun g Ev m' => ∃ v f, v ≤ n ∧ g = n - v ∧ Ev = [(0, .slice ea n ec), (5, .pointer (some ⟨B.w, 0, none⟩)), (7, .slice (some ⟨bN, 0, none⟩) N N), (49, .slice (some ⟨B.p, 0, none⟩) n n), (50, .int .i64 (n : Nat)), (51, .int .i64 (v : Nat))] ∧
      Rows m' bN N f (fun p => (List.range v).filter fun u => part u == p) ∧ m' B.w = m1 B.w ∧ m' B.p = m1 B.p ∧ Fr m m' [] ∧ (∀ x, InRows bN N f x → m1 x = none) ∧ (∀ x, m' x = none → m1 x = none)) n rfl ⟨0, fun _ => .slice none 0 0, by omega, by omega, rfl, ?_, ?_, ?_, fr1.trans0 f2, ?_, ?_⟩ ?_
    · exact Rows.new
    · rw [hw2, hw1]
    · rw [hp2, hp1]
    · intro x hx; rw [inRows_new hx]; exact hbN
    · intro x hx; exact (new_ne hx).2
    clear hw2 hp2 f2 hvis h
    rintro g Ev m2 ⟨v, f, hv, rfl, rfl, hr2, hw2, hp2, fr2, fresh2, hmn⟩
    rw [hw1] at hw2
    rw [hp1] at hp2
    have hrb := hr2.hb
    simp (disch := omega) only [go_sem]
    refine condB_dec (fun h => ?_) (fun h => ?_)
    · have hvn : v < n := by omega
      have hpv := hpt.lt v hvn
      simp (disch := omega) only [go_sem, hp2, hrb]
      refine newP_intro fun bn hbn => ?_
      have f3 : Fr m2 (m2.set bn (.cells [Value.int .i64 (v : Nat)].toArray 3)) [] := Fr.new _ hbn
      have hlen : ((List.range v).filter fun u => part u == part v).length ≤ 512 := by
        have := List.length_filter_le (fun u => part u == part v) (List.range v)
        rw [List.length_range] at this; omega
      simp (disch := omega) only [go_sem]
      refine app_own (n := ((List.range v).filter fun u => part u == part v).length) (k := 1) (c := 1) (news := [.int .i64 (v : Nat)]) ((hr2.own (part v) hpv).frame0 f3) rfl ?_ rfl (by simp [Value.oneCell']) rfl (by omega) (by omega) ?_
      · simp (disch := omega) only [go_sem, ldS]
      intro w5 m5 own5 f5 hblk
      obtain ⟨hr6, hrb5, f6, hin⟩ := hr2.step hpv f3 own5 f5 hblk
      obtain ⟨wa, wc, rfl⟩ := own5.form
      simp (disch := omega) only [go_sem, hrb5]
      have hin' : ∀ x, m1 x ≠ none → x ∉ bN :: blkOf (f (part v)) := fun x hx hx' => by
        rcases List.mem_cons.1 hx' with e | e
        · exact hx (fresh2 x (.inl e))
        · exact hx (fresh2 x (.inr ⟨part v, hpv, e⟩))
      refine handN_intro (n - (v + 1)) (by omega) ⟨v + 1, _, by omega, rfl, rfl, by rw [nodesTo_succ]; exact hr6, ?_, ?_, ?_, fun x hx => ?_, fun x hx => ?_⟩
      · rw [hw1]; exact f6.get (f3.get0 hw2) (hin' _ (by rw [hw1]; exact Option.some_ne_none _))
      · rw [hp1]; exact f6.get (f3.get0 hp2) (hin' _ (by rw [hp1]; exact Option.some_ne_none _))
      · refine (fr2.trans0 f3).trans f6 (fun x hx hne => ?_)
        obtain ⟨o, ho⟩ := Option.ne_none_iff_exists'.1 hne
        exact (hin' x (by rw [fr1.get0 ho]; exact Option.some_ne_none _) hx).elim
      · rcases hin x hx with h' | h'
        · exact fresh2 x h'
        · exact hmn x (new_ne h').2
      · have h5 := (new_ne hx).2
        cases h' : m1 x with
        | none => rfl
        | some o =>
          exfalso
          have h2 : m2 x ≠ none := fun e => by have := hmn x e; rw [h'] at this; cases this
          obtain ⟨o2, ho2⟩ := Option.ne_none_iff_exists'.1 h2
          have := f6.get (f3.get0 ho2) (hin' x (by rw [h']; exact Option.some_ne_none _))
          rw [this] at hx; cases hx
    · have hve : n = v := by omega
      subst hve
      have hm1n : ∀ x, m1 x = none → m x = none := fun x hx => by
        cases h' : m x with
        | none => rfl
        | some o => rw [fr1.get0 h'] at hx; cases hx
      simp (disch := omega) only [go_sem, hw2]
      refine call_with (order_spec m2 n _ E part N B.p bN f hn (hg0.frame fr2) hpt hp2 hr2 (fun x => m x = none) (fun x hx => hm1n x (hmn x hx)) (fun p hp x hx => hm1n x (fresh2 x (.inr ⟨p, hp, hx⟩)))) ?_
      rintro r m3 ⟨l, hout, hrd, fr3⟩
      simp (disch := omega) only [go_sem]
      exact post_intro ⟨r, l, rfl, hout, hrd, fr2.trans0 fr3⟩
end Go.Fw
