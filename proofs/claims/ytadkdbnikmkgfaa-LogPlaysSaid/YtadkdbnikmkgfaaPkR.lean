import Derived.Test.YtadkdbnikmkgfaaPkF
set_option linter.unusedVariables false
namespace Go.Fw
open Go
/-! what was written is read -/
def At (b : List UInt8) (s : RS) (l : List UInt8) : Prop := s.wr = 0 ∧ s.pos ≤ b.length ∧ b.drop s.pos = l
theorem At.step {b : List UInt8} {s : RS} {x r : List UInt8} (h : At b s (x ++ r)) : At b ⟨s.pos + x.length, 0⟩ r := by
  obtain ⟨h1, h2, h3⟩ := h
  have hl := congrArg List.length h3
  simp only [List.length_drop, List.length_append] at hl
  refine ⟨rfl, by simp only; omega, ?_⟩
  simp only
  rw [← List.drop_drop, h3, List.drop_left]
abbrev R6 (n : Int) : Prop := -9223372036854775808 ≤ n ∧ n ≤ 9223372036854775807
theorem At.num {b : List UInt8} {s : RS} {n : Int} {r : List UInt8} (hn : R6 n) (h : At b s (numB n ++ r)) : (s.num b).1 = n ∧ At b (s.num b).2 r := by
  have hs := h.step
  obtain ⟨h1, h2, h3⟩ := h
  have := numR_numF 10 (zig n) 0 0 r (by simpa using zig_lt n hn) (by omega) (by omega) (.inl rfl)
  have e : s.num b = (n, ⟨s.pos + (numB n).length, 0⟩) := by
    unfold RS.num
    rw [if_neg (by simpa using h1), h3]
    unfold numB
    rw [this]
    simp [numE, zag_zig, h1]
  rw [e]; exact ⟨rfl, hs⟩
theorem At.count {b : List UInt8} {s : RS} {n k : Int} {r : List UInt8} (hn : R6 n) (h0 : 0 ≤ n ∧ n ≤ k) (h : At b s (numB n ++ r)) : (s.count b k).1 = n ∧ At b (s.count b k).2 r := by
  have := h.num hn
  have e : s.count b k = s.num b := by
    unfold RS.count; rw [if_neg (by rw [this.1]; omega)]
  rw [e]; exact this
theorem At.text {b : List UInt8} {s : RS} {x : ByteArray} {k : Int} {r : List UInt8} (h0 : (x.size : Int) ≤ k) (hk : k ≤ 1000000) (h : At b s (textB x ++ r)) : (s.text b k).1 = x ∧ At b (s.text b k).2 r := by
  rw [textB, List.append_assoc] at h
  obtain ⟨h1, h2⟩ := h.count (k := k) (by omega) (by omega)
  have h3 := h2.step
  obtain ⟨w1, w2, w3⟩ := h2
  have hl := congrArg List.length w3
  simp only [List.length_drop, List.length_append] at hl
  have hx : x.data.toList.length = x.size := rfl
  have e : s.text b k = (x, ⟨(s.count b k).2.pos + x.data.toList.length, 0⟩) := by
    unfold RS.text
    rw [if_neg (by simpa using w1), h1, if_neg (by omega), w3]
    simp only [Int.toNat_natCast]
    rw [List.take_left' hx]
    simp [hx]
  rw [e]; exact ⟨rfl, h3⟩
theorem At.flag {b : List UInt8} {s : RS} {x : Bool} {r : List UInt8} (h : At b s (flagB x ++ r)) : (s.flag b).1 = x ∧ At b (s.flag b).2 r := by
  have hs := h.step
  obtain ⟨h1, h2, h3⟩ := h
  have e : s.flag b = (x, ⟨s.pos + 1, 0⟩) := by
    unfold RS.flag
    rw [if_neg (by simpa using h1)]
    have hg : b[s.pos]? = some (if x then 1 else 0) := by
      have := congrArg (fun l => l[0]?) h3
      simp only [List.getElem?_drop, Nat.add_zero] at this
      rw [this]; cases x <;> rfl
    rw [hg]
    cases x <;> rfl
  rw [e]
  have : (flagB x).length = 1 := by cases x <;> rfl
  rw [this] at hs
  exact ⟨rfl, hs⟩
theorem At.two {b : List UInt8} {s : RS} {p : Int × Int} {r : List UInt8} (h1 : R6 p.1) (h2 : R6 p.2) (h : At b s (ballB p ++ r)) : (s.two b).1 = p ∧ At b (s.two b).2 r := by
  rw [ballB, List.append_assoc] at h
  have a1 := h.num h1
  have a2 := a1.2.num h2
  exact ⟨Prod.ext a1.1 a2.1, a2.2⟩
theorem At.chk {b : List UInt8} {s : RS} {r : List UInt8} (h : At b s r) {x : Bool} (hx : x = true) : s.chk x = s := by
  unfold RS.chk; rw [if_neg (by simp [hx])]
theorem At.cmd {b : List UInt8} {s : RS} {c : Cmd} {r : List UInt8} (hc : c.right) (h : At b s (cmdB c ++ r)) : getCmd b s = (c, (getCmd b s).2) ∧ At b (getCmd b s).2 r := by
  have key : (getCmd0 b s).1 = c ∧ At b (getCmd0 b s).2 r := by
    have hb := cmd_bounds hc
    unfold cmdB at h
    rw [List.append_assoc] at h
    have a1 := h.num (by omega)
    unfold getCmd0
    rw [a1.1]
    by_cases hk : c.kind = 0
    · rw [if_pos hk, List.nil_append] at a1
      rw [if_pos hk]
      rcases hc with rfl | hc
      · exact ⟨rfl, a1.2⟩
      · omega
    · rw [if_neg hk] at a1 ⊢
      simp only [List.append_assoc] at a1
      have a2 := a1.2.num (by omega)
      have a3 := a2.2.num (by omega)
      have a4 := a3.2.text (k := 16) (by omega) (by omega)
      have e1 : ((s.num b).2.two b).1 = (c.client, c.seq) := Prod.ext a2.1 a3.1
      have e2 : ((s.num b).2.two b).2 = (((s.num b).2.num b).2.num b).2 := rfl
      rw [e1, e2, a4.1]
      have hr := hc.resolve_left (by rintro rfl; exact hk rfl)
      have hbare := hr.2.2.2.2.2.2.1
      unfold getCmdT cmdT at *
      simp only
      have hcmd : c = ⟨c.kind, c.client, c.seq, c.key, c.fin, c.old, c.val⟩ := rfl
      have hf : c.kind ≠ 5 → c.fin = noB := fun h => by rw [hbare]; simp [Cmd.bare, h]
      have ho : c.kind ≠ 4 → c.old = noB := fun h => by rw [hbare]; simp [Cmd.bare, h]
      have hv : ¬ (c.kind = 2 ∨ c.kind = 4) → c.val = noB := fun h => by rw [hbare]; simp [Cmd.bare, h]
      by_cases k2 : c.kind = 2
      · rw [if_pos k2] at a4 ⊢
        have a5 := a4.2.text (k := 64) (by omega) (by omega)
        refine ⟨?_, a5.2⟩
        rw [a5.1]
        exact Eq.trans (by rw [hf (by omega), ho (by omega)]) hcmd.symm
      · rw [if_neg k2] at a4 ⊢
        by_cases k4 : c.kind = 4
        · rw [if_pos k4] at a4 ⊢
          rw [List.append_assoc] at a4
          have a5 := a4.2.text (k := 64) (by omega) (by omega)
          have a6 := a5.2.text (k := 64) (by omega) (by omega)
          refine ⟨?_, a6.2⟩
          rw [a5.1, a6.1]
          exact Eq.trans (by rw [hf (by omega)]) hcmd.symm
        · rw [if_neg k4] at a4 ⊢
          by_cases k5 : c.kind = 5
          · rw [if_pos k5] at a4 ⊢
            have a5 := a4.2.text (k := 16) (by omega) (by omega)
            refine ⟨?_, a5.2⟩
            rw [a5.1]
            exact Eq.trans (by rw [ho (by omega), hv (by omega)]) hcmd.symm
          · rw [if_neg k5] at a4 ⊢
            refine ⟨?_, a4.2⟩
            exact Eq.trans (by rw [hf (by omega), ho (by omega), hv (by omega)]) hcmd.symm
  have e1 : getCmdR b s = (c, (getCmd0 b s).2) := by
    unfold getCmdR
    rw [key.1, key.2.chk (decide_eq_true hc)]
  have e2 : getCmd b s = (c, (getCmd0 b s).2) := by
    unfold getCmd; rw [e1]; simp only [key.2.1, ne_eq, not_true_eq_false, if_false]
  rw [e2]; exact ⟨rfl, key.2⟩
theorem At.depsN {b : List UInt8} {s : RS} {d : Dp} (hd : ∀ k, k < 7 → R6 (d.g k)) : ∀ (k : Nat) {r : List UInt8}, k ≤ 7 → At b s (depsB d k ++ r) → (∀ j, j < k → (depsN b s k).1.g j = d.g j) ∧ At b (depsN b s k).2 r
  | 0, r, _, h => ⟨by simp, h⟩
  | k + 1, r, hk, h => by
    rw [depsB, List.append_assoc] at h
    have ih := At.depsN hd k (by omega) h
    have a := ih.2.num (hd k (by omega))
    refine ⟨fun j hj => ?_, a.2⟩
    simp only [Go.Fw.depsN, Dp.up_g]
    by_cases e : j = k
    · rw [if_pos ⟨e, by omega⟩, a.1, e]
    · rw [if_neg (fun h => e h.1)]; exact ih.1 j (by omega)
theorem At.att {b : List UInt8} {s : RS} {a : Att} {r : List UInt8} (ha : rightA a) (h : At b s (attB a ++ r)) : getAtt b s = (a, (getAtt b s).2) ∧ At b (getAtt b s).2 r := by
  have hd : ∀ k, k < 7 → 0 ≤ a.deps.g k ∧ a.deps.g k ≤ 1073741824 := fun k hk => by rw [Dp.g_lt _ hk]; exact ha.1 _
  have key : (getAtt0 b s).1 = a ∧ At b (getAtt0 b s).2 r := by
    unfold attB at h
    rw [List.append_assoc] at h
    have a1 := h.num (by have := ha.2; omega)
    have a2 := At.depsN (d := a.deps) (fun k hk => by have := hd k hk; omega) 7 (Nat.le_refl _) a1.2
    refine ⟨?_, a2.2⟩
    unfold getAtt0
    simp only
    rw [a1.1, Dp.ext_g a2.1]
  have e1 : getAttR b s = (a, (getAtt0 b s).2) := by
    unfold getAttR
    rw [key.1, key.2.chk (x := a.ok) (decide_eq_true ha)]
  have e2 : getAtt b s = (a, (getAtt0 b s).2) := by
    unfold getAtt; rw [e1]; simp only [key.2.1, ne_eq, not_true_eq_false, if_false]
  rw [e2]; exact ⟨rfl, key.2⟩
theorem At.cel {b : List UInt8} {s : RS} {c : Cel} {r : List UInt8} (hc : c.right) (h : At b s (celB c ++ r)) : (getCel b s).1 = c ∧ At b (getCel b s).2 r := by
  obtain ⟨h1, h2, h3, h4, h5, h6, h7, h8, h9⟩ := hc
  have hc0 : c.right := ⟨h1, h2, h3, h4, h5, h6, h7, h8, h9⟩
  unfold celB at h
  simp only [List.append_assoc] at h
  have a1 := h.num (by omega)
  have a2 := a1.2.two (by omega) (by omega)
  have eH : celH b s = ({ Cel.zero with st := c.st, pr := c.pr }, ((s.num b).2.two b).2) := by unfold celH; rw [a1.1, a2.1]
  have fin : ∀ s', At b s' r → endCel c s' = (c, s') := fun s' hs => by
    unfold endCel; rw [hs.chk (decide_eq_true hc0)]; simp only [hs.1, ne_eq, not_true_eq_false, if_false]
  unfold getCel
  rw [eH]
  simp only
  by_cases hk : c.st = 0
  · rw [if_neg (by simpa using hk)]
    rw [if_pos hk, List.nil_append] at a2
    have := h7 hk
    have e : ({ Cel.zero with st := c.st, pr := c.pr } : Cel) = c := by rw [hk]; exact this.symm
    rw [e, fin _ a2.2]; exact ⟨rfl, a2.2⟩
  · rw [if_pos hk]
    rw [if_neg hk] at a2
    simp only [List.append_assoc] at a2
    have a3 := a2.2.two (by omega) (by omega)
    have a4 := a3.2.cmd h8
    have a5 := a4.2.att h9
    have a6 := a5.2.flag
    have e : celP b { Cel.zero with st := c.st, pr := c.pr } ((s.num b).2.two b).2 = (c, ((getAtt b (getCmd b (((s.num b).2.two b).2.two b).2).2).2.flag b).2) := by
      unfold celP
      rw [a3.1, a6.1]
      have e4 : (getCmd b (((s.num b).2.two b).2.two b).2).1 = c.cmd := by rw [a4.1]
      have e5 : (getAtt b (getCmd b (((s.num b).2.two b).2.two b).2).2).1 = c.att := by rw [a5.1]
      rw [e4, e5]
    rw [e, fin _ a6.2]; exact ⟨rfl, a6.2⟩
/-- **a record is read as what was written.** -/
theorem replay_rec {i : Int × Int} {c : Cel} (hi : rightI i) (hc : c.right) : replay (recB i c) = (i, c, 0) := by
  have h : At (recB i c) ⟨0, 0⟩ (ballB i ++ (celB c ++ [])) := ⟨rfl, Nat.zero_le _, by simp [recB]⟩
  have a1 := h.two (by omega) (by omega)
  have a2 := a1.2.cel hc
  unfold replay
  rw [a1.1, a2.1]
  refine endRec_ok ?_ hi
  unfold RS.fin
  have hp : ¬ (getCel (recB i c) ((RS.mk 0 0).two (recB i c)).2).2.pos < (recB i c).length := by
    have := List.drop_eq_nil_iff.1 a2.2.2.2; omega
  rw [if_neg (fun h => hp h.2)]; exact a2.2.1
end Go.Fw
