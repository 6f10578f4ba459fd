import Derived.Test.YtadkdbnikmkgfaaPkF
import Derived.Test.YtadkdbnikmkgfaaCdC
import Derived.Test.YtadkdbnikmkgfaaBsR
set_option linter.unusedSimpArgs false
set_option linter.unusedVariables false
namespace Go.Fw
open Go.Proofs
variable {t rb : Nat} {a : Option Addr} {c : Nat} {b : List UInt8} {s : RS} {m m0 : Mem} {S : List Nat} {L : List As}
theorem rd_cpl_i64 (x : Int) (h : -9223372036854775808 ≤ x ∧ x ≤ 9223372036854775807) : rd .cpl [.int .i64 x] m = some (.int .i64 (-x - 1)) := by
  show some (Value.int .i64 (IntKind.i64.wrap _)) = _
  congr 2
  have : (BitVec.ofInt IntKind.i64.bits (if IntKind.i64.signed = true then -1 else IntKind.i64.max) ^^^ BitVec.ofInt IntKind.i64.bits x).toNat = 18446744073709551615 - (x % 18446744073709551616).toNat := by
    show (BitVec.ofInt 64 (-1) ^^^ BitVec.ofInt 64 x).toNat = _
    have e : BitVec.ofInt 64 (-1) = BitVec.allOnes 64 := by decide
    rw [e, BitVec.allOnes_xor, BitVec.toNat_not, BitVec.toNat_ofInt]
    simp
  rw [this, IntKind.wrap_i64]; omega
theorem ref1_Zag_s (u : Nat) (hu : u < 2 ^ 64) (m : Mem) : MC Try.prog n_ref1_Zag [.int .u64 (u : Int)] m fun v M => v = .int .i64 (zag u) ∧ Fr m M [] := by
  refine ref1_Zag_go (by simp [Try.f33]) ?_
  have h2 : u % 2 = 0 ∨ u % 2 = 1 := by omega
  have h3 : ((u / 2 ^ 1 : Nat) : Int) ≤ 9223372036854775807 := by omega
  have h4 : (0 : Int) ≤ ((u / 2 ^ 1 : Nat) : Int) := by omega
  rcases h2 with h2 | h2
  · simp (disch := omega) only [go_sem, undef, rd_u64_and1 u hu, h2, Int.natCast_zero, show decide ((0 : Int) = 1) = false from rfl, rd_u64_shr u 1 1 rfl (by omega)]
    exact ⟨by simp [zag, h2], Fr.refl _ _⟩
  · simp (disch := omega) only [go_sem, undef, rd_u64_and1 u hu, h2, Int.natCast_one, rd_u64_shr u 1 1 rfl (by omega), rd_cpl_i64]
    exact ⟨by simp [zag, h2], Fr.refl _ _⟩
theorem ref1_fail_s (h : (rdrA t rb a c b s).p m) (e : Int) (h0 : s.wr = 0) : MC Try.prog n_ref1_Reader_fail [lpp rb, .int .i64 e] m fun v M => (v = .tuple #[] ∧ (rdrA t rb a c b ⟨s.pos, e⟩).p M) ∧ Fr m M [rb] := by
  refine ref1_Reader_fail_go (by simp [Try.f33]) ?_
  have H := Hq.one h
  simp (disch := omega) only [go_sem, undef, H.cs, h0]
  have hp := rdr_pos h
  refine wr_rdr H ⟨s.pos, e⟩ rfl hp fun M f H => ?_
  simp (disch := omega) only [go_sem, undef]
  exact ⟨⟨rfl, H.hs.1⟩, H.fr⟩
theorem ref1_Num_s (h : (rdrA t rb a c b s).p m) : MC Try.prog n_ref1_Reader_Num [lpp rb] m fun v M => (v = .int .i64 (s.num b).1 ∧ (rdrA t rb a c b (s.num b).2).p M) ∧ Fr m M [rb] := by
  refine ref1_Reader_Num_go (by simp [Try.f33]) ?_
  have H := Hq.one h
  simp (disch := omega) only [go_sem, undef, H.cs]
  refine condB_dec (fun h0 => ?_) (fun h0 => ?_)
  rotate_left
  · rw [RS.num_bad h0]
    simp (disch := omega) only [go_sem, undef]
    exact ⟨⟨rfl, H.hs.1⟩, H.fr⟩
  · have hnum : s.num b = numE s (numR (b.drop s.pos) 0 0) := by simp [RS.num, h0]
    rw [hnum]
    simp (disch := omega) only [go_sem, undef, H.cs]
    have hp := rdr_pos h
    have hB := rdr_len h
    refine loopQ_intro (fun n E m' => ∃ i u, n = b.length - (s.pos + i) ∧ E = [(0, lpp rb), (3, .int .u64 (u : Nat)), (4, .int .i64 (i : Nat))] ∧ i ≤ 9 ∧ s.pos + i ≤ b.length ∧ u < 2 ^ (7 * i) ∧ numR (b.drop s.pos) 0 0 = numR (b.drop (s.pos + i)) i u ∧
      Hq m m' [rb] [rdrA t rb a c b s]) (b.length - s.pos) rfl ⟨0, 0, by omega, rfl, by omega, by omega, by decide, rfl, H⟩ ?_
    clear H h
    rintro n E m' ⟨i, u, rfl, rfl, hi, hpi, hu, hr, H⟩
    simp (disch := omega) only [go_sem, undef, H.cs]
    refine condB_dec (fun h1 => ?_) (fun h1 => ?_)
    · simp (disch := omega) only [go_sem, undef]
      refine tS0 H (fun h => ref1_fail_s h 3 h0) fun M f H => ?_
      simp (disch := omega) only [go_sem, undef]
      have : b.drop (s.pos + i) = [] := List.drop_eq_nil_iff.2 (by omega)
      rw [hr, this]
      exact ⟨⟨rfl, H.hs.1⟩, H.fr⟩
    · have h2 : s.pos + i < b.length := by omega
      refine RdS.elK (H.at 0 rfl).2.1 h2 (by decide) fun b1 o1 x hx hix hE => ?_
      rw [drop_cell hx] at hr
      simp only [numR] at hr
      have hxl := x.toNat_lt
      have hpw : i = 9 → (2 : Nat) ^ (7 * i) = 9223372036854775808 := by rintro rfl; decide
      have hpw8 : i ≤ 8 → (2 : Nat) ^ (7 * i) ≤ 72057594037927936 := fun h => Nat.le_trans (Nat.pow_le_pow_right (by omega) (show 7 * i ≤ 56 by omega)) (by decide)
      have hps : (2 : Nat) ^ (7 * (i + 1)) = 128 * 2 ^ (7 * i) := by rw [show 7 * (i + 1) = 7 + 7 * i from by omega, Nat.pow_add]
      generalize hP : (2 : Nat) ^ (7 * i) = P at *
      have hmul : x.toNat % 128 * P ≤ 127 * P := Nat.mul_le_mul_right P (by omega)
      have hmul1 : x.toNat ≤ 1 → x.toNat % 128 * P ≤ 1 * P := fun h => Nat.mul_le_mul_right P (by omega)
      have hix2 : ∀ (kd : IntKind) (M : Mem), rd (.ixs 1) [.slice a b.length c, .int kd ((s.pos : Int) + (i : Int))] M = some (.pointer (some ⟨b1, o1, none⟩)) := hix
      simp (disch := omega) only [go_sem, undef, H.cs, hix2, hE.ld0]
      repeat' (first
        | ((with_reducible refine newQ H fun _ _ f H2 => ?_); clear f; clear H; have H := H2; clear H2; simp (disch := omega) only [go_sem, undef, H.cs, *])
        | ((with_reducible refine wrQ0 H fun _ f H2 => ?_); clear f; clear H; have H := H2; clear H2; simp (disch := omega) only [go_sem, undef, H.cs, *])
        | ((with_reducible refine wrQ1 H fun _ f H2 => ?_); clear f; clear H; have H := H2; clear H2; simp (disch := omega) only [go_sem, undef, H.cs, *])
        | ((with_reducible refine wrQ2 H fun _ f H2 => ?_); clear f; clear H; have H := H2; clear H2; simp (disch := omega) only [go_sem, undef, H.cs, *])
        | ((with_reducible refine wrQ3 H fun _ f H2 => ?_); clear f; clear H; have H := H2; clear H2; simp (disch := omega) only [go_sem, undef, H.cs, *])
        | ((with_reducible refine wrQ4 H fun _ f H2 => ?_); clear f; clear H; have H := H2; clear H2; simp (disch := omega) only [go_sem, undef, H.cs, *])
        | ((with_reducible refine wrQ5 H fun _ f H2 => ?_); clear f; clear H; have H := H2; clear H2; simp (disch := omega) only [go_sem, undef, H.cs, *])
        | ((with_reducible refine stwQ0 H ?hl ?h1 fun _ f H2 => ?_); (case hl => rfl); (case h1 => rfl); clear f; clear H; have H := H2; clear H2; simp (disch := omega) only [go_sem, undef, H.cs, *])
        | ((with_reducible refine stwQ1 H ?hl ?h1 fun _ f H2 => ?_); (case hl => rfl); (case h1 => rfl); clear f; clear H; have H := H2; clear H2; simp (disch := omega) only [go_sem, undef, H.cs, *])
        | ((with_reducible refine stwQ2 H ?hl ?h1 fun _ f H2 => ?_); (case hl => rfl); (case h1 => rfl); clear f; clear H; have H := H2; clear H2; simp (disch := omega) only [go_sem, undef, H.cs, *])
        | ((with_reducible refine stwQ3 H ?hl ?h1 fun _ f H2 => ?_); (case hl => rfl); (case h1 => rfl); clear f; clear H; have H := H2; clear H2; simp (disch := omega) only [go_sem, undef, H.cs, *])
        | ((with_reducible refine stwQ4 H ?hl ?h1 fun _ f H2 => ?_); (case hl => rfl); (case h1 => rfl); clear f; clear H; have H := H2; clear H2; simp (disch := omega) only [go_sem, undef, H.cs, *])
        | ((with_reducible refine stwQ5 H ?hl ?h1 fun _ f H2 => ?_); (case hl => rfl); (case h1 => rfl); clear f; clear H; have H := H2; clear H2; simp (disch := omega) only [go_sem, undef, H.cs, *])
        | ((with_reducible refine stQ0 H ?hl ?h1 fun _ f H2 => ?_); (case hl => exact Nat.le_of_ble_eq_true rfl); (case h1 => rfl); clear f; (simp only [go_sem] at H2); clear H; have H := H2; clear H2; simp (disch := omega) only [go_sem, undef, H.cs, *])
        | ((with_reducible refine stQ1 H ?hl ?h1 fun _ f H2 => ?_); (case hl => exact Nat.le_of_ble_eq_true rfl); (case h1 => rfl); clear f; (simp only [go_sem] at H2); clear H; have H := H2; clear H2; simp (disch := omega) only [go_sem, undef, H.cs, *])
        | ((with_reducible refine stQ2 H ?hl ?h1 fun _ f H2 => ?_); (case hl => exact Nat.le_of_ble_eq_true rfl); (case h1 => rfl); clear f; (simp only [go_sem] at H2); clear H; have H := H2; clear H2; simp (disch := omega) only [go_sem, undef, H.cs, *])
        | ((with_reducible refine stQ3 H ?hl ?h1 fun _ f H2 => ?_); (case hl => exact Nat.le_of_ble_eq_true rfl); (case h1 => rfl); clear f; (simp only [go_sem] at H2); clear H; have H := H2; clear H2; simp (disch := omega) only [go_sem, undef, H.cs, *])
        | ((with_reducible refine gQ_split (fun hq => ?_) (fun hq => ?_)) <;> (try simp only [Bool.not_true, Bool.not_false] at hq) <;> simp (disch := omega) only [go_sem, undef, H.cs, *])
        | ((with_reducible refine condB_split (fun hq => ?_) (fun hq => ?_)) <;> simp (disch := omega) only [go_sem, undef, H.cs, *]))
      all_goals (simp only [decide_eq_true_eq, decide_eq_false_iff_not] at *)
      all_goals first
        | (exfalso; omega)
        | (refine tS0 H (fun h => ref1_fail_s h 4 h0) fun M f H => ?_
           rw [hr, if_pos (by omega)]
           simp (disch := omega) only [go_sem, undef]
           exact ⟨⟨rfl, H.hs.1⟩, H.fr⟩)
        | (have hbad : ¬ ((0 < i ∧ x.toNat = 0) ∨ (i = 9 ∧ 1 < x.toNat)) := by omega
           rw [if_neg hbad] at hr
           by_cases h3 : x.toNat < 128
           · rw [if_pos (by omega)] at hr
             simp (disch := omega) only [go_sem, undef, H.cs, rd_u8_and x.toNat hxl, u64_in, rd_u64_shl' (x.toNat % 128) .i64 (7 * i) (7 * i) (by omega) (by omega) (by rw [hP]; omega), hP, rd_u64_or (7 * i) u (x.toNat % 128 * P) (by omega) (by rw [hP]; exact Nat.mul_mod_left _ _) (by omega)]
             refine wr_rdr H ⟨s.pos + i + 1, s.wr⟩ rfl (by simp only; omega) fun M f H => ?_
             simp (disch := omega) only [go_sem, undef]
             refine callQ H (ref1_Zag_s _ (by omega) M) fun M f H => ?_
             simp (disch := omega) only [go_sem, undef]
             rw [hr]
             have e1 : x.toNat % 128 = x.toNat := by omega
             refine ⟨⟨by simp only [numE, e1], ?_⟩, H.fr⟩
             simp only [numE]
             exact H.hs.1
           · rw [if_neg (by omega)] at hr
             first
               | (exfalso; omega)
               | (simp (disch := omega) only [go_sem, undef, H.cs, rd_u8_and x.toNat hxl, u64_in, rd_u64_shl' (x.toNat % 128) .i64 (7 * i) (7 * i) (by omega) (by omega) (by rw [hP]; omega), hP, rd_u64_or (7 * i) u (x.toNat % 128 * P) (by omega) (by rw [hP]; exact Nat.mul_mod_left _ _) (by omega)]
                  exact handN_intro (b.length - (s.pos + (i + 1))) (by omega) ⟨i + 1, u + x.toNat % 128 * P, rfl, rfl, by omega, by omega, by omega, hr, H⟩))
end Go.Fw
