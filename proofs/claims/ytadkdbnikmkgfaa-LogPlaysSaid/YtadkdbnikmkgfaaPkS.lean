import Derived.Test.YtadkdbnikmkgfaaPkR
import Derived.Test.YtadkdbnikmkgfaaPkH
set_option linter.unusedVariables false
namespace Go.Fw
open Go
/-! a beginning of what was written is no record -/
def Bt (b : List UInt8) (s : RS) (l : List UInt8) : Prop := s.wr ≠ 0 ∨ (s.wr = 0 ∧ s.pos ≤ b.length ∧ ∃ n, n < l.length ∧ b.drop s.pos = l.take n)
theorem Bt.nil {b : List UInt8} {s : RS} (h : Bt b s []) : s.wr ≠ 0 := by
  rcases h with h | ⟨_, _, n, hn, _⟩
  · exact h
  · simp at hn
theorem Bt.num {b : List UInt8} {s : RS} {x : Int} {r : List UInt8} (hx : R6 x) (h : Bt b s (numB x ++ r)) : Bt b (s.num b).2 r ∧ ((s.num b).2.wr = 0 → (s.num b).1 = x) := by
  rcases h with h | ⟨h1, h2, n, hn, h3⟩
  · rw [RS.num_bad h]; exact ⟨.inl h, fun e => absurd e h⟩
  · by_cases hlt : n < (numB x).length
    · have e : s.num b = (0, ⟨s.pos, 3⟩) := by
        unfold RS.num
        rw [if_neg (by simpa using h1), h3, List.take_append_of_le_length (Nat.le_of_lt hlt)]
        unfold numB at *
        rw [numR_cut 10 (zig x) 0 0 n hlt (by simpa using zig_lt x hx) (by omega) (by omega)]
        rfl
      rw [e]; exact ⟨.inl (by simp), fun e => absurd e (by simp)⟩
    · have h4 : b.drop s.pos = numB x ++ r.take (n - (numB x).length) := by
        rw [h3, List.take_append, List.take_of_length_le (by omega)]
      have a := At.num (r := r.take (n - (numB x).length)) hx ⟨h1, h2, h4⟩
      refine ⟨.inr ⟨a.2.1, a.2.2.1, n - (numB x).length, ?_, a.2.2.2⟩, fun _ => a.1⟩
      simp only [List.length_append] at hn; omega
theorem Bt.text {b : List UInt8} {s : RS} {x : ByteArray} {k : Int} {r : List UInt8} (h0 : (x.size : Int) ≤ k) (hk : k ≤ 1000000) (h : Bt b s (textB x ++ r)) : Bt b (s.text b k).2 r ∧ ((s.text b k).2.wr = 0 → (s.text b k).1 = x) := by
  rw [textB, List.append_assoc] at h
  by_cases h1 : s.wr = 0
  · obtain ⟨a1, a2⟩ := h.num (by constructor <;> omega)
    by_cases w : (s.num b).2.wr = 0
    · have e : s.count b k = s.num b := by
        unfold RS.count; rw [if_neg (by rw [a2 w]; omega)]
      rcases a1 with a1 | ⟨_, p2, n, hn, p3⟩
      · exact absurd w a1
      · have hx : x.data.toList.length = x.size := rfl
        have hl := congrArg List.length p3
        simp only [List.length_drop, List.length_take, List.length_append] at hl hn
        by_cases hlt : n < x.size
        · have e2 : s.text b k = (noB, ⟨s.pos, 3⟩) := by
            unfold RS.text
            rw [e, if_neg (by simpa using w), a2 w, if_pos (by omega)]
          rw [e2]; exact ⟨.inl (by simp), fun e => absurd e (by simp)⟩
        · have p4 : b.drop (s.num b).2.pos = x.data.toList ++ r.take (n - x.size) := by
            rw [p3, List.take_append, List.take_of_length_le (by omega), hx]
          have e2 : s.text b k = (x, ⟨(s.num b).2.pos + x.data.toList.length, 0⟩) := by
            unfold RS.text
            rw [e, if_neg (by simpa using w), a2 w, if_neg (by omega), p4]
            simp only [Int.toNat_natCast]
            rw [List.take_left' hx]
            simp [hx]
          have a3 := At.step (s := (s.num b).2) (x := x.data.toList) (r := r.take (n - x.size)) ⟨w, p2, p4⟩
          rw [e2]; exact ⟨.inr ⟨a3.1, a3.2.1, n - x.size, by omega, a3.2.2⟩, fun _ => rfl⟩
    · have e2 : (s.text b k).2.wr ≠ 0 := by
        have e : s.count b k = s.num b := by unfold RS.count; rw [if_neg (fun h => w h.1)]
        unfold RS.text; rw [e, if_pos w]; exact w
      exact ⟨.inl e2, fun e => absurd e e2⟩
  · rw [RS.text_bad h1]; exact ⟨.inl h1, fun e => absurd e h1⟩
theorem Bt.flag {b : List UInt8} {s : RS} {x : Bool} {r : List UInt8} (h : Bt b s (flagB x ++ r)) : Bt b (s.flag b).2 r ∧ ((s.flag b).2.wr = 0 → (s.flag b).1 = x) := by
  rcases h with h | ⟨h1, h2, n, hn, h3⟩
  · rw [RS.flag_bad h]; exact ⟨.inl h, fun e => absurd e h⟩
  · have hf : (flagB x).length = 1 := by cases x <;> rfl
    cases n with
    | zero =>
      have e : s.flag b = (false, ⟨s.pos, 3⟩) := by
        unfold RS.flag
        have : b[s.pos]? = none := by
          have := congrArg (fun l => l[0]?) h3
          simpa using this
        rw [if_neg (by simpa using h1), this]
      rw [e]; exact ⟨.inl (by simp), fun e => absurd e (by simp)⟩
    | succ n =>
      have h4 : b.drop s.pos = flagB x ++ r.take n := by
        rw [h3, List.take_append, List.take_of_length_le (by omega), hf]; rfl
      have a := At.flag (x := x) (r := r.take n) ⟨h1, h2, h4⟩
      refine ⟨.inr ⟨a.2.1, a.2.2.1, n, ?_, a.2.2.2⟩, fun _ => a.1⟩
      simp only [List.length_append] at hn; omega
theorem num_wr {b : List UInt8} {s : RS} (h : (s.num b).2.wr = 0) : s.wr = 0 := Classical.byContradiction fun e => by rw [RS.num_bad e] at h; exact e h
theorem text_wr {b : List UInt8} {s : RS} {k : Int} (h : (s.text b k).2.wr = 0) : s.wr = 0 := Classical.byContradiction fun e => by rw [RS.text_bad e] at h; exact e h
theorem two_wr {b : List UInt8} {s : RS} (h : (s.two b).2.wr = 0) : s.wr = 0 := Classical.byContradiction fun e => by rw [RS.two_bad e] at h; exact e h
theorem getCmd_wr {b : List UInt8} {s : RS} (h : (getCmd b s).2.wr = 0) : s.wr = 0 := Classical.byContradiction fun e => by rw [getCmd_bad e] at h; exact e h
theorem getAtt_wr {b : List UInt8} {s : RS} (h : (getAtt b s).2.wr = 0) : s.wr = 0 := Classical.byContradiction fun e => by rw [getAtt_bad e] at h; exact e h
theorem Bt.two {b : List UInt8} {s : RS} {p : Int × Int} {r : List UInt8} (h1 : R6 p.1) (h2 : R6 p.2) (h : Bt b s (ballB p ++ r)) : Bt b (s.two b).2 r ∧ ((s.two b).2.wr = 0 → (s.two b).1 = p) := by
  rw [ballB, List.append_assoc] at h
  have a1 := h.num h1
  have a2 := a1.1.num h2
  exact ⟨a2.1, fun e => Prod.ext (a1.2 (num_wr e)) (a2.2 e)⟩
theorem Bt.chk {b : List UInt8} {s : RS} {r : List UInt8} (h : Bt b s r) {x : Bool} (hx : s.wr = 0 → x = true) : s.chk x = s := by
  unfold RS.chk; rw [if_neg]; rintro ⟨h1, h2⟩; rw [hx h1] at h2; cases h2
theorem Bt.cmd {b : List UInt8} {s : RS} {c : Cmd} {r : List UInt8} (hc : c.right) (h : Bt b s (cmdB c ++ r)) : Bt b (getCmd b s).2 r ∧ ((getCmd b s).2.wr = 0 → (getCmd b s).1 = c) := by
  have key : Bt b (getCmd0 b s).2 r ∧ ((getCmd0 b s).2.wr = 0 → (getCmd0 b s).1 = c) := by
    have hb := cmd_bounds hc
    unfold cmdB at h
    rw [List.append_assoc] at h
    have a1 := h.num (x := c.kind) (by constructor <;> omega)
    unfold getCmd0
    by_cases w1 : (s.num b).2.wr = 0
    · rw [a1.2 w1]
      by_cases hk : c.kind = 0
      · rw [if_pos hk, List.nil_append] at a1
        rw [if_pos hk]
        rcases hc with rfl | hc
        · exact ⟨a1.1, fun _ => rfl⟩
        · omega
      · rw [if_neg hk] at a1 ⊢
        simp only [List.append_assoc] at a1
        have a2 := a1.1.num (x := c.client) (by constructor <;> omega)
        have a3 := a2.1.num (x := c.seq) (by constructor <;> omega)
        have a4 := a3.1.text (x := c.key) (k := 16) (by omega) (by omega)
        have e2 : ((s.num b).2.two b).2 = (((s.num b).2.num b).2.num b).2 := rfl
        have e1 : ((((s.num b).2.num b).2.num b).2.text b 16).2.wr = 0 → ((s.num b).2.two b).1 = (c.client, c.seq) ∧ ((((s.num b).2.num b).2.num b).2.text b 16).1 = c.key := fun w =>
          ⟨Prod.ext (a2.2 (num_wr (text_wr w))) (a3.2 (text_wr w)), a4.2 w⟩
        have hr := hc.resolve_left (by rintro rfl; exact hk rfl)
        have hbare := hr.2.2.2.2.2.2.1
        unfold getCmdT cmdT at *
        simp only
        have hcmd : c = ⟨c.kind, c.client, c.seq, c.key, c.fin, c.old, c.val⟩ := rfl
        have hf : c.kind ≠ 5 → c.fin = noB := fun h => by rw [hbare]; simp [Cmd.bare, h]
        have ho : c.kind ≠ 4 → c.old = noB := fun h => by rw [hbare]; simp [Cmd.bare, h]
        have hv : ¬ (c.kind = 2 ∨ c.kind = 4) → c.val = noB := fun h => by rw [hbare]; simp [Cmd.bare, h]
        rw [e2]
        by_cases k2 : c.kind = 2
        · rw [if_pos k2] at a4 ⊢
          have a5 := a4.1.text (x := c.val) (k := 64) (by omega) (by omega)
          refine ⟨a5.1, fun w => ?_⟩
          have e3 := e1 (text_wr w)
          simp only at w ⊢
          rw [a5.2 w, e3.1, e3.2]
          exact Eq.trans (by rw [hf (by omega), ho (by omega)]) hcmd.symm
        · rw [if_neg k2] at a4 ⊢
          by_cases k4 : c.kind = 4
          · rw [if_pos k4] at a4 ⊢
            rw [List.append_assoc] at a4
            have a5 := a4.1.text (x := c.old) (k := 64) (by omega) (by omega)
            have a6 := a5.1.text (x := c.val) (k := 64) (by omega) (by omega)
            refine ⟨a6.1, fun w => ?_⟩
            have e3 := e1 (text_wr (text_wr w))
            simp only at w ⊢
            rw [a5.2 (text_wr w), a6.2 w, e3.1, e3.2]
            exact Eq.trans (by rw [hf (by omega)]) hcmd.symm
          · rw [if_neg k4] at a4 ⊢
            by_cases k5 : c.kind = 5
            · rw [if_pos k5] at a4 ⊢
              have a5 := a4.1.text (x := c.fin) (k := 16) (by omega) (by omega)
              refine ⟨a5.1, fun w => ?_⟩
              have e3 := e1 (text_wr w)
              simp only at w ⊢
              rw [a5.2 w, e3.1, e3.2]
              exact Eq.trans (by rw [ho (by omega), hv (by omega)]) hcmd.symm
            · rw [if_neg k5] at a4 ⊢
              refine ⟨a4.1, fun w => ?_⟩
              have e3 := e1 w
              rw [e3.1, e3.2]
              exact Eq.trans (by rw [hf (by omega), ho (by omega), hv (by omega)]) hcmd.symm
    · rw [RS.num_z w1, if_pos rfl]
      exact ⟨.inl w1, fun w => absurd w w1⟩
  have e1 : (getCmdR b s).2 = (getCmd0 b s).2 := by
    unfold getCmdR
    exact key.1.chk fun w => by rw [key.2 w]; exact decide_eq_true hc
  have e2 : (getCmd b s).2 = (getCmd0 b s).2 := by unfold getCmd; exact e1
  refine ⟨by rw [e2]; exact key.1, fun w => ?_⟩
  rw [e2] at w
  unfold getCmd
  simp only [e1, w, ne_eq, not_true_eq_false, if_false]
  exact key.2 w
theorem Bt.depsN {b : List UInt8} {s : RS} {d : Dp} (hd : ∀ k, k < 7 → R6 (d.g k)) : ∀ (k : Nat) {r : List UInt8}, k ≤ 7 → Bt b s (depsB d k ++ r) → ((depsN b s k).2.wr = 0 → ∀ j, j < k → (depsN b s k).1.g j = d.g j) ∧ Bt b (depsN b s k).2 r
  | 0, r, _, h => ⟨by simp, h⟩
  | k + 1, r, hk, h => by
    rw [depsB, List.append_assoc] at h
    have ih := Bt.depsN hd k (by omega) h
    have a := ih.2.num (hd k (by omega))
    refine ⟨fun w j hj => ?_, a.1⟩
    simp only [Go.Fw.depsN, Dp.up_g] at w ⊢
    by_cases e : j = k
    · rw [if_pos ⟨e, by omega⟩, a.2 w, e]
    · rw [if_neg (fun h => e h.1)]; exact ih.1 (num_wr w) j (by omega)
theorem Bt.att {b : List UInt8} {s : RS} {a : Att} {r : List UInt8} (ha : rightA a) (h : Bt b s (attB a ++ r)) : Bt b (getAtt b s).2 r ∧ ((getAtt b s).2.wr = 0 → (getAtt b s).1 = a) := by
  have hd : ∀ k, k < 7 → 0 ≤ a.deps.g k ∧ a.deps.g k ≤ 1073741824 := fun k hk => by rw [Dp.g_lt _ hk]; exact ha.1 _
  have key : Bt b (getAtt0 b s).2 r ∧ ((getAtt0 b s).2.wr = 0 → (getAtt0 b s).1 = a) := by
    unfold attB at h
    rw [List.append_assoc] at h
    have a1 := h.num (x := a.seq) (by have := ha.2; constructor <;> omega)
    have a2 := Bt.depsN (d := a.deps) (fun k hk => by have := hd k hk; constructor <;> omega) 7 (Nat.le_refl _) a1.1
    refine ⟨a2.2, fun w => ?_⟩
    unfold getAtt0 at w ⊢
    simp only at w ⊢
    have w1 : (s.num b).2.wr = 0 := Classical.byContradiction fun e => by rw [depsN_bad e] at w; exact e w
    rw [a1.2 w1, Dp.ext_g (a2.1 w)]
  have e1 : (getAttR b s).2 = (getAtt0 b s).2 := by
    unfold getAttR
    exact key.1.chk fun w => by rw [key.2 w]; exact decide_eq_true ha
  have e2 : (getAtt b s).2 = (getAtt0 b s).2 := by unfold getAtt; exact e1
  refine ⟨by rw [e2]; exact key.1, fun w => ?_⟩
  rw [e2] at w
  unfold getAtt
  simp only [e1, w, ne_eq, not_true_eq_false, if_false]
  exact key.2 w
theorem endCel_wr {c : Cel} {s : RS} {b r : List UInt8} (h : Bt b s r) (hc : s.wr = 0 → c.right) : (endCel c s).2 = s := by
  unfold endCel
  exact h.chk fun w => decide_eq_true (hc w)
theorem Bt.cel {b : List UInt8} {s : RS} {c : Cel} {r : List UInt8} (hc : c.right) (h : Bt b s (celB c ++ r)) : Bt b (getCel b s).2 r := by
  obtain ⟨h1, h2, h3, h4, h5, h6, h7, h8, h9⟩ := hc
  have hc0 : c.right := ⟨h1, h2, h3, h4, h5, h6, h7, h8, h9⟩
  unfold celB at h
  simp only [List.append_assoc] at h
  have a1 := h.num (x := c.st) (by constructor <;> omega)
  have a2 := a1.1.two (p := c.pr) (by constructor <;> omega) (by constructor <;> omega)
  have eS : (celH b s).2 = ((s.num b).2.two b).2 := rfl
  unfold getCel
  by_cases w2 : ((s.num b).2.two b).2.wr = 0
  · have eH : (celH b s).1 = { Cel.zero with st := c.st, pr := c.pr } := by unfold celH; simp only; rw [a1.2 (two_wr w2), a2.2 w2]
    rw [eH, eS]
    simp only
    by_cases hk : c.st = 0
    · rw [if_neg (by simpa using hk)]
      rw [if_pos hk, List.nil_append] at a2
      have := h7 hk
      have e : ({ Cel.zero with st := c.st, pr := c.pr } : Cel) = c := by rw [hk]; exact this.symm
      rw [e, endCel_wr a2.1 (fun _ => hc0)]; exact a2.1
    · rw [if_pos hk]
      rw [if_neg hk] at a2
      simp only [List.append_assoc] at a2
      have a3 := a2.1.two (p := c.vo) (by constructor <;> omega) (by constructor <;> omega)
      have a4 := a3.1.cmd h8
      have a5 := a4.1.att h9
      have a6 := a5.1.flag
      have e : (celP b { Cel.zero with st := c.st, pr := c.pr } ((s.num b).2.two b).2).2 = ((getAtt b (getCmd b (((s.num b).2.two b).2.two b).2).2).2.flag b).2 := rfl
      rw [endCel_wr (r := r) (b := b)]
      · rw [e]; exact a6.1
      · rw [e]; exact a6.1
      · intro w
        rw [e] at w
        have : (celP b { Cel.zero with st := c.st, pr := c.pr } ((s.num b).2.two b).2).1 = c := by
          unfold celP
          simp only
          have w5 := flag_wr w
          have w4 := getAtt_wr w5
          have w3 := getCmd_wr w4
          rw [a3.2 w3, a4.2 w4, a5.2 w5, a6.2 w]
        rw [this]; exact hc0
  · by_cases hz : (celH b s).1.st ≠ 0
    · rw [if_pos hz, eS, endCel_bad (by rw [celP_bad w2]; exact w2), celP_bad w2]
      exact .inl w2
    · rw [if_neg hz, eS, endCel_bad w2]
      exact .inl w2
/-- **a record cut off is none.** -/
theorem replay_cut {i : Int × Int} {c : Cel} (hi : rightI i) (hc : c.right) {k : Nat} (hk : k < (recB i c).length) : (replay ((recB i c).take k)).2.2 ≠ 0 := by
  have h : Bt ((recB i c).take k) ⟨0, 0⟩ (ballB i ++ (celB c ++ [])) := .inr ⟨rfl, Nat.zero_le _, k, by simpa [recB] using hk, by simp [recB]⟩
  have a1 := h.two (by constructor <;> omega) (by constructor <;> omega)
  have a2 := (a1.1.cel hc).nil
  unfold replay
  have hf : ∀ s : RS, s.wr ≠ 0 → s.fin ((recB i c).take k) = s := fun s hs => by unfold RS.fin; rw [if_neg (fun h => hs h.1)]
  rw [endRec_err (by rw [hf _ a2]; exact a2), hf _ a2]
  exact a2
end Go.Fw
