import Derived.Test.YtpjecpkkcabnjaaGreatDoorSwJ
set_option linter.unusedVariables false
set_option linter.unusedSimpArgs false
/-! The law's own functions: held against each other, told, named. -/
namespace Go.Fw
open Go.Proofs Go.Sh
variable {m m0 M : Mem} {S : List Nat} {L : List As}
def cmdZ (s : Stp) : Cmd := ⟨s.ck, s.cc, s.cq, zb s.key, zb s.fin, zb s.old, zb s.val⟩
theorem stc_cmd (s : Stp) (a : Option Addr) (n c : Nat) : ((stc s a n c).drop 4).take 7 = (cmdZ s).cs := rfl
set_option maxRecDepth 100000 in
theorem same_s {s : Stp} {a b : Option Addr} {c d : Nat} (h1 : RdS 1 ic m (.slice a s.picks.length c) s.picks) (h2 : RdS 1 ic m (.slice b s.picks.length d) s.picks) (hn : s.picks.length ≤ 1000000) :
    MC Tryz.prog n_law29_same [.agg (stc s a s.picks.length c).toArray, .agg (stc s b s.picks.length d).toArray] m fun v M => v = .bool true ∧ Fr m M [] := by
  refine law29_same_go (by simp [Tryz.f33]) ?_
  have H := Hq.refl m []
  simp (disch := omega) only [go_sem, undef]
  refine newQ H fun b1 M f H => ?_
  simp (disch := omega) only [go_sem, undef]
  refine newQ H fun b2 M f H => ?_
  simp (disch := omega) only [go_sem, undef, H.cs, stc_cmd, Cmd.eq, decide_eq_true (show s.kind = s.kind from rfl), decide_eq_true (show s.n = s.n from rfl), decide_eq_true (show s.count = s.count from rfl), decide_eq_true (show s.client = s.client from rfl), decide_eq_true (show cmdZ s = cmdZ s from rfl)]
  refine callQ H (sameI_s (h1.frame H.fr) (h2.frame H.fr) hn) fun M f H => ?_
  simp (disch := omega) only [go_sem, undef]
  exact ⟨rfl, H.fr⟩
theorem names_s {l : List UInt8} (hl : l.length ≤ 1000000) (m : Mem) : MC Tryz.prog n_law29_names [strV l] m fun v M => (∃ b, v = .bool b) ∧ Fr m M [] := by
  refine law29_names_go (by simp [Tryz.f33]) ?_
  have H := Hq.refl m []
  simp (disch := omega) only [go_sem, undef]
  refine loopQ_intro (fun k E m' => ∃ (j : Nat), j ≤ l.length ∧ k = l.length - j ∧ E = [(0, strV l), (3, .string ⟨#[57, 50, 50, 51, 51, 55, 50, 48, 51, 54, 56, 53, 52, 55, 55, 53, 56, 48, 56]⟩), (4, .int .i64 (j : Nat))] ∧ Hq m m' [] []) l.length rfl ⟨0, by omega, rfl, rfl, H⟩ ?_
  clear H
  rintro k E M1 ⟨j, hj, rfl, rfl, H⟩
  by_cases hlt : j + 19 ≤ l.length
  · have hs : ∀ M : Mem, rd (.slcs true true) [strV l, .int .i64 (j : Nat), .int .i64 ((j : Nat) + ((19 : Nat) : Int))] M = some (strV ((l.take (j + 19)).drop j)) := fun M => by
      show (cutB (zb l) (j : Nat) ((j : Nat) + ((19 : Nat) : Int))).map Value.string = _
      unfold cutB
      rw [if_pos (by rw [zb_size]; omega)]
      show some (Value.string ((zb l).extract _ _)) = _
      rw [show (((j : Nat) : Int) + ((19 : Nat) : Int)).toNat = j + 19 by omega, Int.toNat_natCast, zb_ext]
    by_cases he : zb ((l.take (j + 19)).drop j) = (⟨#[57, 50, 50, 51, 51, 55, 50, 48, 51, 54, 56, 53, 52, 55, 55, 53, 56, 48, 56]⟩ : ByteArray)
    · simp (disch := omega) only [go_sem, undef, rd_lenz_zb, dec_t (show ((j : Nat) : Int) + ((19 : Nat) : Int) ≤ (l.length : Nat) by omega), hs, decide_eq_true he]
      exact ⟨⟨_, rfl⟩, H.fr⟩
    · simp (disch := omega) only [go_sem, undef, rd_lenz_zb, dec_t (show ((j : Nat) : Int) + ((19 : Nat) : Int) ≤ (l.length : Nat) by omega), hs, decide_eq_false he]
      exact handN_intro (l.length - (j + 1)) (by omega) ⟨j + 1, by omega, rfl, rfl, H⟩
  · simp (disch := omega) only [go_sem, undef, rd_lenz_zb, dec_f (show ¬ ((j : Nat) : Int) + ((19 : Nat) : Int) ≤ (l.length : Nat) by omega)]
    exact ⟨⟨_, rfl⟩, H.fr⟩
/-- a told step's picks lie where the step's lie -/
def tpA (s : Stp) (a : Option Addr) : Option Addr := if s.kind = 8 then a else none
def tpN (s : Stp) (n : Nat) : Nat := if s.kind = 8 then n else 0
theorem bld_told (x y : Int) : lay (stc Stp.zero none 0 0) [(0, 1), (1, 1)] [.int .i64 x, .int .i64 y] = some (stc { Stp.zero with kind := x, n := y } none 0 0) := rfl
theorem bld_cmd (x : Int) (k : List UInt8) : lay Cmd.zero.cs [(0, 1), (3, 1)] [.int .i64 x, strV k] = some (Cmd.mk x 0 0 (zb k) noB noB noB).cs := rfl
theorem stc_putc (s : Stp) (a : Option Addr) (n c : Nat) (x : Int) (k : List UInt8) : (stc s a n c).take 4 ++ (Cmd.mk x 0 0 (zb k) noB noB noB).cs ++ (stc s a n c).drop (4 + (Cmd.mk x 0 0 (zb k) noB noB noB).cs.length) = stc { s with ck := x, cc := 0, cq := 0, key := k, fin := [], old := [], val := [] } a n c := rfl
set_option maxHeartbeats 4000000 in
theorem told_s {s : Stp} {a : Option Addr} {n c : Nat} (m : Mem) :
    MC Tryz.prog n_law29_told [.agg (stc s a n c).toArray] m fun v M => v = .agg (stc (toldL s) (tpA s a) (tpN s n) (tpN s c)).toArray ∧ Fr m M [] := by
  refine law29_told_go (by simp [Tryz.f33]) ?_
  have H := Hq.refl m []
  simp (disch := omega) only [go_sem, undef]
  refine newQ H fun b1 M f H => ?_
  simp (disch := omega) only [go_sem, undef]
  refine newQ H fun b2 M f H => ?_
  simp (disch := omega) only [go_sem, undef, H.cs, bld_told]
  refine newQ H fun b3 M f H => ?_
  simp (disch := omega) only [go_sem, undef, H.cs, bld_told]
  refine stwQ0 H rfl rfl fun M f H => ?_
  by_cases h7 : s.kind = 7
  · simp (disch := omega) only [go_sem, undef, H.cs, decide_eq_true h7]
    refine wrQ0 H fun M f H => ?_
    simp (disch := omega) only [go_sem, undef, H.cs]
    refine stwQ1 H rfl rfl fun M f H => ?_
    simp (disch := omega) only [go_sem, undef, H.cs]
    exact ⟨by unfold toldL tpA tpN; simp [h7], H.fr⟩
  · by_cases h8 : s.kind = 8
    · simp (disch := omega) only [go_sem, undef, H.cs, decide_eq_false h7, decide_eq_true h8]
      refine wrQ0 H fun M f H => ?_
      simp (disch := omega) only [go_sem, undef, H.cs]
      refine stwQ1 H rfl rfl fun M f H => ?_
      simp (disch := omega) only [go_sem, undef, H.cs]
      exact ⟨by unfold toldL tpA tpN; simp [h8]; rfl, H.fr⟩
    · by_cases h1 : s.kind = 1
      · simp (disch := omega) only [go_sem, undef, H.cs, decide_eq_false h7, decide_eq_false h8, decide_eq_true h1]
        refine wrQ0 H fun M f H => ?_
        simp (disch := omega) only [go_sem, undef, H.cs, bld_cmd]
        refine stQ0 H (Nat.le_of_ble_eq_true rfl) rfl fun M f H => ?_
        rw [stc_putc] at H
        by_cases c2 : s.ck = 2
        · simp (disch := omega) only [go_sem, undef, H.cs, decide_eq_true c2]
          refine wrQ0 H fun M f H => ?_
          simp (disch := omega) only [go_sem, undef, H.cs]
          refine stwQ1 H rfl rfl fun M f H => ?_
          simp (disch := omega) only [go_sem, undef, H.cs]
          exact ⟨by unfold toldL tpA tpN; simp [h1, c2], H.fr⟩
        · by_cases c4 : s.ck = 4
          · simp (disch := omega) only [go_sem, undef, H.cs, decide_eq_false c2, decide_eq_true c4]
            refine wrQ0 H fun M f H => ?_
            simp (disch := omega) only [go_sem, undef, H.cs]
            refine wrQ0 H fun M f H => ?_
            simp (disch := omega) only [go_sem, undef, H.cs]
            refine stwQ1 H rfl rfl fun M f H => ?_
            simp (disch := omega) only [go_sem, undef, H.cs]
            exact ⟨by unfold toldL tpA tpN; simp [h1, c4], H.fr⟩
          · by_cases c5 : s.ck = 5
            · simp (disch := omega) only [go_sem, undef, H.cs, decide_eq_false c2, decide_eq_false c4, decide_eq_true c5]
              refine wrQ0 H fun M f H => ?_
              simp (disch := omega) only [go_sem, undef, H.cs]
              refine stwQ1 H rfl rfl fun M f H => ?_
              simp (disch := omega) only [go_sem, undef, H.cs]
              exact ⟨by unfold toldL tpA tpN; simp [h1, c5], H.fr⟩
            · simp (disch := omega) only [go_sem, undef, H.cs, decide_eq_false c2, decide_eq_false c4, decide_eq_false c5]
              refine stwQ1 H rfl rfl fun M f H => ?_
              simp (disch := omega) only [go_sem, undef, H.cs]
              exact ⟨by unfold toldL tpA tpN; simp [h1, c2, c4, c5], H.fr⟩
      · simp (disch := omega) only [go_sem, undef, H.cs, decide_eq_false h7, decide_eq_false h8, decide_eq_false h1]
        refine stwQ1 H rfl rfl fun M f H => ?_
        simp (disch := omega) only [go_sem, undef, H.cs]
        exact ⟨by unfold toldL tpA tpN; simp [h7, h8, h1], H.fr⟩
end Go.Fw
