import Derived.Test.YtadkdbnikmkgfaaPkH
set_option linter.unusedSimpArgs false
set_option linter.unusedVariables false
namespace Go.Fw
open Go.Proofs
variable {m : Mem}
theorem rd_u64_and127 (x : Nat) (h : x < 2 ^ 64) : rd (.ibt .and) [.int .u64 (x : Int), .int .u64 127] m = some (.int .u64 ((x % 128 : Nat) : Int)) := by
  show some (Value.int .u64 (IntKind.u64.wrap _)) = _
  congr 2
  have : (BitVec.ofInt IntKind.u64.bits (x : Int) &&& BitVec.ofInt IntKind.u64.bits 127).toNat = x % 128 := by
    show (BitVec.ofInt 64 (x : Int) &&& BitVec.ofInt 64 127).toNat = _
    rw [BitVec.toNat_and, BitVec.toNat_ofInt, BitVec.toNat_ofInt]
    have h1 : ((x : Int) % ((2 ^ 64 : Nat) : Int)).toNat = x := by omega
    have h2 : ((127 : Int) % ((2 ^ 64 : Nat) : Int)).toNat = 2 ^ 7 - 1 := by decide
    rw [h1, h2, Nat.and_two_pow_sub_one_eq_mod]
  rw [this, u64_in]; omega
theorem rd_u64_or1 (x : Nat) (h : x < 2 ^ 64) (h2 : x % 2 = 0) : rd (.ibt .or) [.int .u64 (x : Int), .int .u64 1] m = some (.int .u64 ((x + 1 : Nat) : Int)) := by
  show some (Value.int .u64 (IntKind.u64.wrap _)) = _
  congr 2
  have : (BitVec.ofInt IntKind.u64.bits (x : Int) ||| BitVec.ofInt IntKind.u64.bits 1).toNat = x + 1 := by
    show (BitVec.ofInt 64 (x : Int) ||| BitVec.ofInt 64 1).toNat = _
    rw [BitVec.toNat_or, BitVec.toNat_ofInt, BitVec.toNat_ofInt]
    have h1 : ((x : Int) % ((2 ^ 64 : Nat) : Int)).toNat = x := by omega
    have h3 : ((1 : Int) % ((2 ^ 64 : Nat) : Int)).toNat = 1 := by decide
    rw [h1, h3]
    obtain ⟨q, rfl⟩ := Nat.dvd_of_mod_eq_zero h2
    have := Nat.two_pow_add_eq_or_of_lt (i := 1) (b := 1) (by decide) q
    rw [show (2 : Nat) ^ 1 = 2 from rfl] at this
    exact this.symm
  rw [this, u64_in]; omega
theorem ref1_Zig_s (n : Int) (h : -9223372036854775808 ≤ n ∧ n ≤ 9223372036854775807) : MC Try.prog n_ref1_Zig [.int .i64 n] m fun v M => v = .int .u64 ((zig n : Nat) : Int) ∧ Fr m M [] := by
  refine ref1_Zig_go (by simp [Try.f33]) ?_
  have e2 : ∀ (x : Int) M, 0 ≤ x → x ≤ 9223372036854775807 → rd (.ish .shl) [.int .u64 (IntKind.u64.wrap x), .int .u64 1] M = some (.int .u64 ((2 * x).toNat : Nat)) := fun x M h1 h2 => by
    show (if (1 : Int) < 0 then none else some (Value.int .u64 (IntKind.u64.wrap (IntKind.u64.wrap x * 2 ^ min (1 : Int).toNat 64)))) = _
    rw [if_neg (by omega)]
    congr 2
    show IntKind.u64.wrap (IntKind.u64.wrap x * 2) = _
    simp [IntKind.wrap, IntKind.bits, IntKind.signed]; omega
  by_cases h0 : n < 0
  · have e3 : (2 * (-n - 1)).toNat + 1 = zig n := by simp only [zig, if_pos h0]; omega
    simp (disch := omega) only [go_sem, undef, dec_t, rd_cpl_i64, e2, rd_u64_or1]
    exact ⟨by rw [e3], Fr.refl _ _⟩
  · have e3 : (2 * n).toNat = zig n := by simp only [zig, if_neg h0]
    simp (disch := omega) only [go_sem, undef, dec_f, e2]
    exact ⟨by rw [e3], Fr.refl _ _⟩
theorem ref1_Num_w {v : Value} {l : List UInt8} (hv : RdB m v l) (hl : l.length ≤ 549755813888) (n : Int) (hn : -9223372036854775808 ≤ n ∧ n ≤ 9223372036854775807) : CN Try.prog n_ref1_Num [v, .int .i64 n] m fun u A => A = byA T_uint8 u (l ++ numB n) := by
  obtain ⟨a, c, rfl⟩ := hv.form
  refine ref1_Num_go (by simp [Try.f33]) ?_
  have H := Hq.refl m []
  simp (disch := omega) only [go_sem, undef]
  refine newQ H fun b M f H => ?_
  have H := H.toRow 1 0 0 (by simp) (by omega)
  simp (disch := omega) only [go_sem, undef]
  have hv2 := hv.frame f
  refine appQ0 H (k := l.length) rfl (ldS_of hv2) (by rw [bys_len]; omega) (bys_one l) rfl (by omega) (by omega) fun u M f H => ?_
  have H : Hq m M [] [byA T_uint8 u (l ++ [])] := by simpa using H
  simp (disch := omega) only [go_sem, undef]
  refine callQ H (ref1_Zig_s n hn) fun M f H => ?_
  simp (disch := omega) only [go_sem, undef]
  refine loopQ_intro (fun k E m' => ∃ i q done w, k = 10 - i ∧ E = [(5, w), (6, .int .u64 (q : Nat))] ∧ i ≤ 9 ∧ q < 2 ^ (64 - 7 * i) ∧ done.length = i ∧ numB n = done ++ numF (10 - i) q ∧ Hq m m' [] [byA T_uint8 w (l ++ done)]) 10 rfl ⟨0, zig n, [], u, rfl, rfl, by omega, by simpa using zig_lt n hn, rfl, rfl, H⟩ ?_
  clear H f hv hv2
  rintro k E m' ⟨i, q, done, w, rfl, rfl, hi, hq, hd, he, H⟩
  have hp : (2 : Nat) ^ (64 - 7 * i) = if i = 9 then 2 else 2 ^ (64 - 7 * (i + 1)) * 128 := by
    split
    · rename_i e; subst e; decide
    · rw [show 64 - 7 * i = (64 - 7 * (i + 1)) + 7 from by omega, Nat.pow_add]
  have hq64 : q < 18446744073709551616 := Nat.lt_of_lt_of_le hq (Nat.le_trans (Nat.pow_le_pow_right (by omega) (show 64 - 7 * i ≤ 64 by omega)) (by decide))
  simp (disch := omega) only [go_sem, undef, u64_in]
  by_cases h1 : 128 ≤ q
  · have hi9 : i ≠ 9 := by
      rintro rfl
      simp at hp; omega
    rw [if_neg hi9] at hp
    simp (disch := omega) only [go_sem, undef, dec_t, u8_wrap, rd_u64_and127 q (by omega), rd_u8_or (q % 128 % 256) (by omega)]
    refine newQ H fun b1 M f H => ?_
    simp (disch := omega) only [go_sem, undef]
    refine appQ1 H (k := 1) rfl (ldS_cell (l := [_]) H.cs.1 (by simp)) rfl (by simp [Value.oneCell']) rfl (by simp; omega) (by simp; omega) fun w2 M f H => ?_
    have H := H.tail
    rw [show [Value.int IntKind.u8 ((q % 128 % 256 % 128 + 128 : Nat) : Int)].take (1 * 1) = bys [UInt8.ofNat (q % 128 + 128)] from by
      show [Value.int IntKind.u8 _] = [bv _]
      rw [← bv_of _ (by omega), show q % 128 % 256 % 128 = q % 128 from by omega]] at H
    have H : Hq m M [] [byA T_uint8 w2 (l ++ (done ++ [UInt8.ofNat (q % 128 + 128)]))] := by
      rw [← List.append_assoc, ← byA_app]; exact H
    simp (disch := omega) only [go_sem, undef, rd_u64_shr q 7 7 rfl (by omega)]
    have e10 : 10 - i = (10 - (i + 1)) + 1 := by omega
    rw [e10, numF, if_neg (by omega)] at he
    exact handN_intro (10 - (i + 1)) (by omega) ⟨i + 1, q / 2 ^ 7, _, w2, rfl, rfl, by omega, by rw [hp] at hq; exact Nat.div_lt_of_lt_mul (by omega), by simp [hd], by rw [he]; simp, H⟩
  · simp (disch := omega) only [go_sem, undef, dec_f, u8_wrap]
    refine newQ H fun b1 M f H => ?_
    simp (disch := omega) only [go_sem, undef]
    refine appQ1 H (k := 1) rfl (ldS_cell (l := [_]) H.cs.1 (by simp)) rfl (by simp [Value.oneCell']) rfl (by simp; omega) (by simp; omega) fun w2 M f H => ?_
    have H := H.tail
    rw [show [Value.int IntKind.u8 ((q % 256 : Nat) : Int)].take (1 * 1) = bys [UInt8.ofNat q] from by
      show [Value.int IntKind.u8 _] = [bv _]
      rw [show q % 256 = q from by omega, ← bv_of _ (by omega)]] at H
    have e10 : 10 - i = (10 - (i + 1)) + 1 := by omega
    rw [e10, numF, if_pos (by omega)] at he
    have H : Hq m M [] [byA T_uint8 w2 (l ++ numB n)] := by
      rw [he, ← List.append_assoc, ← byA_app]; exact H
    simp (disch := omega) only [go_sem, undef]
    exact CN_end H rfl
theorem ref1_Text_w {v : Value} {l : List UInt8} (hv : RdB m v l) (hl : l.length ≤ 549755813888) (s : ByteArray) (hs : s.size ≤ 549755813888) : CN Try.prog n_ref1_Text [v, .string s] m fun u A => A = byA T_uint8 u (l ++ textB s) := by
  refine ref1_Text_go (by simp [Try.f33]) ?_
  have H := Hq.refl m []
  have hn := numB_len s.size
  simp (disch := omega) only [go_sem, undef]
  refine callN H (ref1_Num_w hv (by omega) s.size (by omega)) fun u M A' eA f H => ?_
  subst eA
  simp (disch := omega) only [go_sem, undef]
  refine apsQ0 H (by rw [List.length_append]; omega) fun u M f H => ?_
  rw [str_bys, show s.size = s.data.toList.length from rfl, byA_app] at H
  simp (disch := omega) only [go_sem, undef]
  exact CN_end H (by rw [textB, List.append_assoc]; rfl)
theorem ref1_Flag_w {v : Value} {l : List UInt8} (hv : RdB m v l) (hl : l.length ≤ 549755813888) (x : Bool) : CN Try.prog n_ref1_Flag [v, .bool x] m fun u A => A = byA T_uint8 u (l ++ flagB x) := by
  obtain ⟨a, c, rfl⟩ := hv.form
  refine ref1_Flag_go (by simp [Try.f33]) ?_
  have H := Hq.refl m []
  cases x
  all_goals
    simp (disch := omega) only [go_sem, undef]
    refine newQ H fun b M f H => ?_
    have H := H.toRow 1 0 0 (by simp) (by omega)
    simp (disch := omega) only [go_sem, undef]
    have hv2 := hv.frame f
    refine appQ0 H (k := l.length) rfl (ldS_of hv2) (by rw [bys_len]; omega) (bys_one l) rfl (by omega) (by omega) fun u M f H => ?_
    have H : Hq m M [] [byA T_uint8 u (l ++ [])] := by simpa using H
    simp (disch := omega) only [go_sem, undef]
    refine newQ H fun b1 M f H => ?_
    simp (disch := omega) only [go_sem, undef]
    refine appQ1 H (k := 1) rfl (ldS_cell (l := [_]) H.cs.1 (by simp)) rfl (by simp [Value.oneCell']) rfl (by simp; omega) (by simp; omega) fun w2 M f H => ?_
    have H := H.tail
    first
      | rw [show [Value.int IntKind.u8 0].take (1 * 1) = bys [0] from rfl, show (l ++ ([] : List UInt8)).length + 1 = (l ++ ([] : List UInt8)).length + [(0 : UInt8)].length from rfl, byA_app] at H
      | rw [show [Value.int IntKind.u8 1].take (1 * 1) = bys [1] from rfl, show (l ++ ([] : List UInt8)).length + 1 = (l ++ ([] : List UInt8)).length + [(1 : UInt8)].length from rfl, byA_app] at H
    simp (disch := omega) only [go_sem, undef]
    exact CN_end H (by simp [flagB])
theorem ref15_attr_w {v : Value} {l : List UInt8} (hv : RdB m v l) (hl : l.length ≤ 100000) (a : Att) (ha : rightA a) : CN Try.prog n_ref15_attr [v, a.v] m fun u A => A = byA T_uint8 u (l ++ attB a) := by
  refine ref15_attr_go (by simp [Try.f33]) ?_
  have H := Hq.refl m []
  have hs := ha.2
  have hd : ∀ k, k < 7 → 0 ≤ a.deps.g k ∧ a.deps.g k ≤ 1073741824 := fun k hk => by rw [Dp.g_lt _ hk]; exact ha.1 _
  simp (disch := omega) only [go_sem, undef]
  refine newQ H fun b1 _ _ H => ?_
  simp (disch := omega) only [go_sem, undef, H.cs]
  refine callN H (ref1_Num_w (hv.frame H.fr) (by omega) _ (by omega)) fun u M A' e f H => ?_
  subst e
  simp (disch := omega) only [go_sem, undef, H.cs]
  refine loopQ_intro (fun n E m' => ∃ k u, k ≤ 7 ∧ n = 7 - k ∧ E = [(0, u), (3, .pointer (some ⟨b1, 0, none⟩)), (5, .int .i64 (k : Nat))] ∧ (depsB a.deps k).length ≤ 10 * k ∧ Hq m m' [] [byA T_uint8 u (l ++ numB a.seq ++ depsB a.deps k), cellA b1 (.cells a.cs.toArray T_api_Attr (0, 0))]) 7 rfl ⟨0, u, by omega, rfl, rfl, by simp [depsB], by simpa [depsB] using H⟩ ?_
  clear H f
  rintro n E m' ⟨k, u, hk, rfl, rfl, hlen, H⟩
  simp (disch := omega) only [go_sem, undef]
  have hn := numB_len a.seq
  refine condB_dec (fun h1 => ?_) (fun h1 => ?_)
  · have h2 : k < 7 := by omega
    have h3 := hd k h2
    have h4 := numB_len (a.deps.g k)
    simp (disch := omega) only [go_sem, undef, H.cs]
    refine tN0 H (fun h => ref1_Num_w (byA_rd h) (by simp only [List.length_append]; omega) _ (by omega)) fun u2 M A' e f H => ?_
    subst e
    simp (disch := omega) only [go_sem, undef]
    exact handN_intro (7 - (k + 1)) (by omega) ⟨k + 1, u2, by omega, rfl, rfl, by simp only [depsB, List.length_append]; omega, by simpa [depsB] using dropQ1 H⟩
  · have h2 : k = 7 := by omega
    subst h2
    simp (disch := omega) only [go_sem, undef]
    exact CN_end H (by simp [attB])
theorem ref15_ballot_w {v : Value} {l : List UInt8} (hv : RdB m v l) (hl : l.length ≤ 100000) (p : Int × Int) (hp : (-9223372036854775808 ≤ p.1 ∧ p.1 ≤ 9223372036854775807) ∧ -9223372036854775808 ≤ p.2 ∧ p.2 ≤ 9223372036854775807) : CN Try.prog n_ref15_ballot [v, pv p] m fun u A => A = byA T_uint8 u (l ++ ballB p) := by
  refine ref15_ballot_go (by simp [Try.f33]) ?_
  have H := Hq.refl m []
  simp (disch := omega) only [go_sem, undef]
  repeat' (first
    | ((with_reducible refine newQ H fun _ _ f H2 => ?_); clear f; clear H; have H := H2; clear H2; simp (disch := omega) only [go_sem, undef, H.cs, *])
    | ((with_reducible refine wrQ0 H fun _ f H2 => ?_); clear f; clear H; have H := H2; clear H2; simp (disch := omega) only [go_sem, undef, H.cs, *])
    | ((with_reducible refine wrQ1 H fun _ f H2 => ?_); clear f; clear H; have H := H2; clear H2; simp (disch := omega) only [go_sem, undef, H.cs, *])
    | ((with_reducible refine wrQ2 H fun _ f H2 => ?_); clear f; clear H; have H := H2; clear H2; simp (disch := omega) only [go_sem, undef, H.cs, *])
    | ((with_reducible refine wrQ3 H fun _ f H2 => ?_); clear f; clear H; have H := H2; clear H2; simp (disch := omega) only [go_sem, undef, H.cs, *])
    | ((with_reducible refine wrQ4 H fun _ f H2 => ?_); clear f; clear H; have H := H2; clear H2; simp (disch := omega) only [go_sem, undef, H.cs, *])
    | ((with_reducible refine wrQ5 H fun _ f H2 => ?_); clear f; clear H; have H := H2; clear H2; simp (disch := omega) only [go_sem, undef, H.cs, *])
    | ((with_reducible refine stwQ0 H ?hl ?h1 fun _ f H2 => ?_); (case hl => rfl); (case h1 => rfl); clear f; clear H; have H := H2; clear H2; simp (disch := omega) only [go_sem, undef, H.cs, *])
    | ((with_reducible refine stwQ1 H ?hl ?h1 fun _ f H2 => ?_); (case hl => rfl); (case h1 => rfl); clear f; clear H; have H := H2; clear H2; simp (disch := omega) only [go_sem, undef, H.cs, *])
    | ((with_reducible refine stwQ2 H ?hl ?h1 fun _ f H2 => ?_); (case hl => rfl); (case h1 => rfl); clear f; clear H; have H := H2; clear H2; simp (disch := omega) only [go_sem, undef, H.cs, *])
    | ((with_reducible refine stwQ3 H ?hl ?h1 fun _ f H2 => ?_); (case hl => rfl); (case h1 => rfl); clear f; clear H; have H := H2; clear H2; simp (disch := omega) only [go_sem, undef, H.cs, *])
    | ((with_reducible refine stwQ4 H ?hl ?h1 fun _ f H2 => ?_); (case hl => rfl); (case h1 => rfl); clear f; clear H; have H := H2; clear H2; simp (disch := omega) only [go_sem, undef, H.cs, *])
    | ((with_reducible refine stwQ5 H ?hl ?h1 fun _ f H2 => ?_); (case hl => rfl); (case h1 => rfl); clear f; clear H; have H := H2; clear H2; simp (disch := omega) only [go_sem, undef, H.cs, *])
    | ((with_reducible refine stQ0 H ?hl ?h1 fun _ f H2 => ?_); (case hl => exact Nat.le_of_ble_eq_true rfl); (case h1 => rfl); clear f; (simp only [go_sem] at H2); clear H; have H := H2; clear H2; simp (disch := omega) only [go_sem, undef, H.cs, *])
    | ((with_reducible refine stQ1 H ?hl ?h1 fun _ f H2 => ?_); (case hl => exact Nat.le_of_ble_eq_true rfl); (case h1 => rfl); clear f; (simp only [go_sem] at H2); clear H; have H := H2; clear H2; simp (disch := omega) only [go_sem, undef, H.cs, *])
    | ((with_reducible refine stQ2 H ?hl ?h1 fun _ f H2 => ?_); (case hl => exact Nat.le_of_ble_eq_true rfl); (case h1 => rfl); clear f; (simp only [go_sem] at H2); clear H; have H := H2; clear H2; simp (disch := omega) only [go_sem, undef, H.cs, *])
    | ((with_reducible refine stQ3 H ?hl ?h1 fun _ f H2 => ?_); (case hl => exact Nat.le_of_ble_eq_true rfl); (case h1 => rfl); clear f; (simp only [go_sem] at H2); clear H; have H := H2; clear H2; simp (disch := omega) only [go_sem, undef, H.cs, *])
    | ((with_reducible refine tN0 H (fun h => ref1_Num_w (byA_rd h) (by grind [numB_len, textB_len, List.length_append]) _ (by omega)) fun _ _ _ e f H2 => ?_); subst e; clear f; clear H; have H := H2; clear H2; simp (disch := omega) only [go_sem, undef, H.cs, *])
    | ((with_reducible refine tN1 H (fun h => ref1_Num_w (byA_rd h) (by grind [numB_len, textB_len, List.length_append]) _ (by omega)) fun _ _ _ e f H2 => ?_); subst e; clear f; clear H; have H := H2; clear H2; simp (disch := omega) only [go_sem, undef, H.cs, *])
    | ((with_reducible refine tN2 H (fun h => ref1_Num_w (byA_rd h) (by grind [numB_len, textB_len, List.length_append]) _ (by omega)) fun _ _ _ e f H2 => ?_); subst e; clear f; clear H; have H := H2; clear H2; simp (disch := omega) only [go_sem, undef, H.cs, *])
    | ((with_reducible refine callN H (ref1_Num_w (hv.frame H.fr) (by omega) _ (by omega)) fun _ _ _ e f H2 => ?_); subst e; clear f; clear H; have H := H2; clear H2; simp (disch := omega) only [go_sem, undef, H.cs, *])
    | ((with_reducible refine gQ_split (fun hq => ?_) (fun hq => ?_)) <;> (try simp only [Bool.not_true, Bool.not_false] at hq) <;> simp (disch := omega) only [go_sem, undef, H.cs, *])
    | ((with_reducible refine condB_split (fun hq => ?_) (fun hq => ?_)) <;> simp (disch := omega) only [go_sem, undef, H.cs, *]))
  exact post_intro (CN_end H (by simp [ballB]))
theorem ref15_inst_w {v : Value} {l : List UInt8} (hv : RdB m v l) (hl : l.length ≤ 100000) (p : Int × Int) (hp : (-9223372036854775808 ≤ p.1 ∧ p.1 ≤ 9223372036854775807) ∧ -9223372036854775808 ≤ p.2 ∧ p.2 ≤ 9223372036854775807) : CN Try.prog n_ref15_inst [v, pv p] m fun u A => A = byA T_uint8 u (l ++ ballB p) := by
  refine ref15_inst_go (by simp [Try.f33]) ?_
  have H := Hq.refl m []
  simp (disch := omega) only [go_sem, undef]
  repeat' (first
    | ((with_reducible refine newQ H fun _ _ f H2 => ?_); clear f; clear H; have H := H2; clear H2; simp (disch := omega) only [go_sem, undef, H.cs, *])
    | ((with_reducible refine wrQ0 H fun _ f H2 => ?_); clear f; clear H; have H := H2; clear H2; simp (disch := omega) only [go_sem, undef, H.cs, *])
    | ((with_reducible refine wrQ1 H fun _ f H2 => ?_); clear f; clear H; have H := H2; clear H2; simp (disch := omega) only [go_sem, undef, H.cs, *])
    | ((with_reducible refine wrQ2 H fun _ f H2 => ?_); clear f; clear H; have H := H2; clear H2; simp (disch := omega) only [go_sem, undef, H.cs, *])
    | ((with_reducible refine wrQ3 H fun _ f H2 => ?_); clear f; clear H; have H := H2; clear H2; simp (disch := omega) only [go_sem, undef, H.cs, *])
    | ((with_reducible refine wrQ4 H fun _ f H2 => ?_); clear f; clear H; have H := H2; clear H2; simp (disch := omega) only [go_sem, undef, H.cs, *])
    | ((with_reducible refine wrQ5 H fun _ f H2 => ?_); clear f; clear H; have H := H2; clear H2; simp (disch := omega) only [go_sem, undef, H.cs, *])
    | ((with_reducible refine stwQ0 H ?hl ?h1 fun _ f H2 => ?_); (case hl => rfl); (case h1 => rfl); clear f; clear H; have H := H2; clear H2; simp (disch := omega) only [go_sem, undef, H.cs, *])
    | ((with_reducible refine stwQ1 H ?hl ?h1 fun _ f H2 => ?_); (case hl => rfl); (case h1 => rfl); clear f; clear H; have H := H2; clear H2; simp (disch := omega) only [go_sem, undef, H.cs, *])
    | ((with_reducible refine stwQ2 H ?hl ?h1 fun _ f H2 => ?_); (case hl => rfl); (case h1 => rfl); clear f; clear H; have H := H2; clear H2; simp (disch := omega) only [go_sem, undef, H.cs, *])
    | ((with_reducible refine stwQ3 H ?hl ?h1 fun _ f H2 => ?_); (case hl => rfl); (case h1 => rfl); clear f; clear H; have H := H2; clear H2; simp (disch := omega) only [go_sem, undef, H.cs, *])
    | ((with_reducible refine stwQ4 H ?hl ?h1 fun _ f H2 => ?_); (case hl => rfl); (case h1 => rfl); clear f; clear H; have H := H2; clear H2; simp (disch := omega) only [go_sem, undef, H.cs, *])
    | ((with_reducible refine stwQ5 H ?hl ?h1 fun _ f H2 => ?_); (case hl => rfl); (case h1 => rfl); clear f; clear H; have H := H2; clear H2; simp (disch := omega) only [go_sem, undef, H.cs, *])
    | ((with_reducible refine stQ0 H ?hl ?h1 fun _ f H2 => ?_); (case hl => exact Nat.le_of_ble_eq_true rfl); (case h1 => rfl); clear f; (simp only [go_sem] at H2); clear H; have H := H2; clear H2; simp (disch := omega) only [go_sem, undef, H.cs, *])
    | ((with_reducible refine stQ1 H ?hl ?h1 fun _ f H2 => ?_); (case hl => exact Nat.le_of_ble_eq_true rfl); (case h1 => rfl); clear f; (simp only [go_sem] at H2); clear H; have H := H2; clear H2; simp (disch := omega) only [go_sem, undef, H.cs, *])
    | ((with_reducible refine stQ2 H ?hl ?h1 fun _ f H2 => ?_); (case hl => exact Nat.le_of_ble_eq_true rfl); (case h1 => rfl); clear f; (simp only [go_sem] at H2); clear H; have H := H2; clear H2; simp (disch := omega) only [go_sem, undef, H.cs, *])
    | ((with_reducible refine stQ3 H ?hl ?h1 fun _ f H2 => ?_); (case hl => exact Nat.le_of_ble_eq_true rfl); (case h1 => rfl); clear f; (simp only [go_sem] at H2); clear H; have H := H2; clear H2; simp (disch := omega) only [go_sem, undef, H.cs, *])
    | ((with_reducible refine tN0 H (fun h => ref1_Num_w (byA_rd h) (by grind [numB_len, textB_len, List.length_append]) _ (by omega)) fun _ _ _ e f H2 => ?_); subst e; clear f; clear H; have H := H2; clear H2; simp (disch := omega) only [go_sem, undef, H.cs, *])
    | ((with_reducible refine tN1 H (fun h => ref1_Num_w (byA_rd h) (by grind [numB_len, textB_len, List.length_append]) _ (by omega)) fun _ _ _ e f H2 => ?_); subst e; clear f; clear H; have H := H2; clear H2; simp (disch := omega) only [go_sem, undef, H.cs, *])
    | ((with_reducible refine tN2 H (fun h => ref1_Num_w (byA_rd h) (by grind [numB_len, textB_len, List.length_append]) _ (by omega)) fun _ _ _ e f H2 => ?_); subst e; clear f; clear H; have H := H2; clear H2; simp (disch := omega) only [go_sem, undef, H.cs, *])
    | ((with_reducible refine callN H (ref1_Num_w (hv.frame H.fr) (by omega) _ (by omega)) fun _ _ _ e f H2 => ?_); subst e; clear f; clear H; have H := H2; clear H2; simp (disch := omega) only [go_sem, undef, H.cs, *])
    | ((with_reducible refine gQ_split (fun hq => ?_) (fun hq => ?_)) <;> (try simp only [Bool.not_true, Bool.not_false] at hq) <;> simp (disch := omega) only [go_sem, undef, H.cs, *])
    | ((with_reducible refine condB_split (fun hq => ?_) (fun hq => ?_)) <;> simp (disch := omega) only [go_sem, undef, H.cs, *]))
  exact post_intro (CN_end H (by simp [ballB]))
set_option maxHeartbeats 2000000 in
theorem ref15_command_w {v : Value} {l : List UInt8} (hv : RdB m v l) (hl : l.length ≤ 100000) (c : Cmd) (hc : c.right) : CN Try.prog n_ref15_command [v, c.v] m fun u A => A = byA T_uint8 u (l ++ cmdB c) := by
  obtain ⟨h1, h2, h3, h4, h5, h6, h7, h8, h9, h10⟩ := cmd_bounds hc
  refine ref15_command_go (by simp [Try.f33]) ?_
  have H := Hq.refl m []
  simp (disch := omega) only [go_sem, undef]
  repeat' (first
    | ((with_reducible refine newQ H fun _ _ f H2 => ?_); clear f; clear H; have H := H2; clear H2; simp (disch := omega) only [go_sem, undef, H.cs, *])
    | ((with_reducible refine wrQ0 H fun _ f H2 => ?_); clear f; clear H; have H := H2; clear H2; simp (disch := omega) only [go_sem, undef, H.cs, *])
    | ((with_reducible refine wrQ1 H fun _ f H2 => ?_); clear f; clear H; have H := H2; clear H2; simp (disch := omega) only [go_sem, undef, H.cs, *])
    | ((with_reducible refine wrQ2 H fun _ f H2 => ?_); clear f; clear H; have H := H2; clear H2; simp (disch := omega) only [go_sem, undef, H.cs, *])
    | ((with_reducible refine wrQ3 H fun _ f H2 => ?_); clear f; clear H; have H := H2; clear H2; simp (disch := omega) only [go_sem, undef, H.cs, *])
    | ((with_reducible refine wrQ4 H fun _ f H2 => ?_); clear f; clear H; have H := H2; clear H2; simp (disch := omega) only [go_sem, undef, H.cs, *])
    | ((with_reducible refine wrQ5 H fun _ f H2 => ?_); clear f; clear H; have H := H2; clear H2; simp (disch := omega) only [go_sem, undef, H.cs, *])
    | ((with_reducible refine stwQ0 H ?hl ?h1 fun _ f H2 => ?_); (case hl => rfl); (case h1 => rfl); clear f; clear H; have H := H2; clear H2; simp (disch := omega) only [go_sem, undef, H.cs, *])
    | ((with_reducible refine stwQ1 H ?hl ?h1 fun _ f H2 => ?_); (case hl => rfl); (case h1 => rfl); clear f; clear H; have H := H2; clear H2; simp (disch := omega) only [go_sem, undef, H.cs, *])
    | ((with_reducible refine stwQ2 H ?hl ?h1 fun _ f H2 => ?_); (case hl => rfl); (case h1 => rfl); clear f; clear H; have H := H2; clear H2; simp (disch := omega) only [go_sem, undef, H.cs, *])
    | ((with_reducible refine stwQ3 H ?hl ?h1 fun _ f H2 => ?_); (case hl => rfl); (case h1 => rfl); clear f; clear H; have H := H2; clear H2; simp (disch := omega) only [go_sem, undef, H.cs, *])
    | ((with_reducible refine stwQ4 H ?hl ?h1 fun _ f H2 => ?_); (case hl => rfl); (case h1 => rfl); clear f; clear H; have H := H2; clear H2; simp (disch := omega) only [go_sem, undef, H.cs, *])
    | ((with_reducible refine stwQ5 H ?hl ?h1 fun _ f H2 => ?_); (case hl => rfl); (case h1 => rfl); clear f; clear H; have H := H2; clear H2; simp (disch := omega) only [go_sem, undef, H.cs, *])
    | ((with_reducible refine stQ0 H ?hl ?h1 fun _ f H2 => ?_); (case hl => exact Nat.le_of_ble_eq_true rfl); (case h1 => rfl); clear f; (simp only [go_sem] at H2); clear H; have H := H2; clear H2; simp (disch := omega) only [go_sem, undef, H.cs, *])
    | ((with_reducible refine stQ1 H ?hl ?h1 fun _ f H2 => ?_); (case hl => exact Nat.le_of_ble_eq_true rfl); (case h1 => rfl); clear f; (simp only [go_sem] at H2); clear H; have H := H2; clear H2; simp (disch := omega) only [go_sem, undef, H.cs, *])
    | ((with_reducible refine stQ2 H ?hl ?h1 fun _ f H2 => ?_); (case hl => exact Nat.le_of_ble_eq_true rfl); (case h1 => rfl); clear f; (simp only [go_sem] at H2); clear H; have H := H2; clear H2; simp (disch := omega) only [go_sem, undef, H.cs, *])
    | ((with_reducible refine stQ3 H ?hl ?h1 fun _ f H2 => ?_); (case hl => exact Nat.le_of_ble_eq_true rfl); (case h1 => rfl); clear f; (simp only [go_sem] at H2); clear H; have H := H2; clear H2; simp (disch := omega) only [go_sem, undef, H.cs, *])
    | ((with_reducible refine tN0 H (fun h => ref1_Num_w (byA_rd h) (by grind [numB_len, textB_len, List.length_append]) _ (by omega)) fun _ _ _ e f H2 => ?_); subst e; clear f; clear H; have H := H2; clear H2; simp (disch := omega) only [go_sem, undef, H.cs, *])
    | ((with_reducible refine tN1 H (fun h => ref1_Num_w (byA_rd h) (by grind [numB_len, textB_len, List.length_append]) _ (by omega)) fun _ _ _ e f H2 => ?_); subst e; clear f; clear H; have H := H2; clear H2; simp (disch := omega) only [go_sem, undef, H.cs, *])
    | ((with_reducible refine tN2 H (fun h => ref1_Num_w (byA_rd h) (by grind [numB_len, textB_len, List.length_append]) _ (by omega)) fun _ _ _ e f H2 => ?_); subst e; clear f; clear H; have H := H2; clear H2; simp (disch := omega) only [go_sem, undef, H.cs, *])
    | ((with_reducible refine callN H (ref1_Num_w (hv.frame H.fr) (by omega) _ (by omega)) fun _ _ _ e f H2 => ?_); subst e; clear f; clear H; have H := H2; clear H2; simp (disch := omega) only [go_sem, undef, H.cs, *])
    | ((with_reducible refine tN0 H (fun h => ref1_Text_w (byA_rd h) (by grind [numB_len, textB_len, List.length_append]) _ (by omega)) fun _ _ _ e f H2 => ?_); subst e; clear f; clear H; have H := H2; clear H2; simp (disch := omega) only [go_sem, undef, H.cs, *])
    | ((with_reducible refine tN1 H (fun h => ref1_Text_w (byA_rd h) (by grind [numB_len, textB_len, List.length_append]) _ (by omega)) fun _ _ _ e f H2 => ?_); subst e; clear f; clear H; have H := H2; clear H2; simp (disch := omega) only [go_sem, undef, H.cs, *])
    | ((with_reducible refine tN2 H (fun h => ref1_Text_w (byA_rd h) (by grind [numB_len, textB_len, List.length_append]) _ (by omega)) fun _ _ _ e f H2 => ?_); subst e; clear f; clear H; have H := H2; clear H2; simp (disch := omega) only [go_sem, undef, H.cs, *])
    | ((with_reducible refine gQ_split (fun hq => ?_) (fun hq => ?_)) <;> (try simp only [Bool.not_true, Bool.not_false] at hq) <;> simp (disch := omega) only [go_sem, undef, H.cs, *])
    | ((with_reducible refine condB_split (fun hq => ?_) (fun hq => ?_)) <;> simp (disch := omega) only [go_sem, undef, H.cs, *]))
  all_goals (simp only [decide_eq_true_eq, decide_eq_false_iff_not] at *)
  all_goals first
    | exact post_intro (CN_end H (by simp [cmdB, cmdT, *]))
    | (exfalso; omega)
set_option maxHeartbeats 2000000 in
theorem ref15_PutCell_w {v : Value} {l : List UInt8} (hv : RdB m v l) (hl : l.length ≤ 10000) (c : Cel) (hc : c.right) : CN Try.prog n_ref15_PutCell [v, c.v] m fun u A => A = byA T_uint8 u (l ++ celB c) := by
  have hc0 := hc
  obtain ⟨h1, h2, h3, h4, _, _, _, h5, h6⟩ := hc
  have := cmdB_len h5
  refine ref15_PutCell_go (by simp [Try.f33]) ?_
  have H := Hq.refl m []
  simp (disch := omega) only [go_sem, undef]
  repeat' (first
    | ((with_reducible refine newQ H fun _ _ f H2 => ?_); clear f; clear H; have H := H2; clear H2; simp (disch := omega) only [go_sem, undef, H.cs, *])
    | ((with_reducible refine wrQ0 H fun _ f H2 => ?_); clear f; clear H; have H := H2; clear H2; simp (disch := omega) only [go_sem, undef, H.cs, *])
    | ((with_reducible refine wrQ1 H fun _ f H2 => ?_); clear f; clear H; have H := H2; clear H2; simp (disch := omega) only [go_sem, undef, H.cs, *])
    | ((with_reducible refine wrQ2 H fun _ f H2 => ?_); clear f; clear H; have H := H2; clear H2; simp (disch := omega) only [go_sem, undef, H.cs, *])
    | ((with_reducible refine wrQ3 H fun _ f H2 => ?_); clear f; clear H; have H := H2; clear H2; simp (disch := omega) only [go_sem, undef, H.cs, *])
    | ((with_reducible refine wrQ4 H fun _ f H2 => ?_); clear f; clear H; have H := H2; clear H2; simp (disch := omega) only [go_sem, undef, H.cs, *])
    | ((with_reducible refine wrQ5 H fun _ f H2 => ?_); clear f; clear H; have H := H2; clear H2; simp (disch := omega) only [go_sem, undef, H.cs, *])
    | ((with_reducible refine stwQ0 H ?hl ?h1 fun _ f H2 => ?_); (case hl => rfl); (case h1 => rfl); clear f; clear H; have H := H2; clear H2; simp (disch := omega) only [go_sem, undef, H.cs, *])
    | ((with_reducible refine stwQ1 H ?hl ?h1 fun _ f H2 => ?_); (case hl => rfl); (case h1 => rfl); clear f; clear H; have H := H2; clear H2; simp (disch := omega) only [go_sem, undef, H.cs, *])
    | ((with_reducible refine stwQ2 H ?hl ?h1 fun _ f H2 => ?_); (case hl => rfl); (case h1 => rfl); clear f; clear H; have H := H2; clear H2; simp (disch := omega) only [go_sem, undef, H.cs, *])
    | ((with_reducible refine stwQ3 H ?hl ?h1 fun _ f H2 => ?_); (case hl => rfl); (case h1 => rfl); clear f; clear H; have H := H2; clear H2; simp (disch := omega) only [go_sem, undef, H.cs, *])
    | ((with_reducible refine stwQ4 H ?hl ?h1 fun _ f H2 => ?_); (case hl => rfl); (case h1 => rfl); clear f; clear H; have H := H2; clear H2; simp (disch := omega) only [go_sem, undef, H.cs, *])
    | ((with_reducible refine stwQ5 H ?hl ?h1 fun _ f H2 => ?_); (case hl => rfl); (case h1 => rfl); clear f; clear H; have H := H2; clear H2; simp (disch := omega) only [go_sem, undef, H.cs, *])
    | ((with_reducible refine stQ0 H ?hl ?h1 fun _ f H2 => ?_); (case hl => exact Nat.le_of_ble_eq_true rfl); (case h1 => rfl); clear f; (simp only [go_sem] at H2); clear H; have H := H2; clear H2; simp (disch := omega) only [go_sem, undef, H.cs, *])
    | ((with_reducible refine stQ1 H ?hl ?h1 fun _ f H2 => ?_); (case hl => exact Nat.le_of_ble_eq_true rfl); (case h1 => rfl); clear f; (simp only [go_sem] at H2); clear H; have H := H2; clear H2; simp (disch := omega) only [go_sem, undef, H.cs, *])
    | ((with_reducible refine stQ2 H ?hl ?h1 fun _ f H2 => ?_); (case hl => exact Nat.le_of_ble_eq_true rfl); (case h1 => rfl); clear f; (simp only [go_sem] at H2); clear H; have H := H2; clear H2; simp (disch := omega) only [go_sem, undef, H.cs, *])
    | ((with_reducible refine stQ3 H ?hl ?h1 fun _ f H2 => ?_); (case hl => exact Nat.le_of_ble_eq_true rfl); (case h1 => rfl); clear f; (simp only [go_sem] at H2); clear H; have H := H2; clear H2; simp (disch := omega) only [go_sem, undef, H.cs, *])
    | ((with_reducible refine callN H (ref1_Num_w (hv.frame H.fr) (by omega) _ (by omega)) fun _ _ _ e f H2 => ?_); subst e; clear f; clear H; have H := H2; clear H2; simp (disch := omega) only [go_sem, undef, H.cs, *])
    | ((with_reducible refine tN0 H (fun h => ref15_ballot_w (byA_rd h) (by grind [numB_len, ballB_len, cmdB_len, attB_len, List.length_append]) _ (by omega)) fun _ _ _ e f H2 => ?_); subst e; clear f; clear H; have H := H2; clear H2; simp (disch := omega) only [go_sem, undef, H.cs, *])
    | ((with_reducible refine tN1 H (fun h => ref15_ballot_w (byA_rd h) (by grind [numB_len, ballB_len, cmdB_len, attB_len, List.length_append]) _ (by omega)) fun _ _ _ e f H2 => ?_); subst e; clear f; clear H; have H := H2; clear H2; simp (disch := omega) only [go_sem, undef, H.cs, *])
    | ((with_reducible refine tN2 H (fun h => ref15_ballot_w (byA_rd h) (by grind [numB_len, ballB_len, cmdB_len, attB_len, List.length_append]) _ (by omega)) fun _ _ _ e f H2 => ?_); subst e; clear f; clear H; have H := H2; clear H2; simp (disch := omega) only [go_sem, undef, H.cs, *])
    | ((with_reducible refine tN0 H (fun h => ref15_command_w (byA_rd h) (by grind [numB_len, ballB_len, cmdB_len, attB_len, List.length_append]) _ h5) fun _ _ _ e f H2 => ?_); subst e; clear f; clear H; have H := H2; clear H2; simp (disch := omega) only [go_sem, undef, H.cs, *])
    | ((with_reducible refine tN1 H (fun h => ref15_command_w (byA_rd h) (by grind [numB_len, ballB_len, cmdB_len, attB_len, List.length_append]) _ h5) fun _ _ _ e f H2 => ?_); subst e; clear f; clear H; have H := H2; clear H2; simp (disch := omega) only [go_sem, undef, H.cs, *])
    | ((with_reducible refine tN2 H (fun h => ref15_command_w (byA_rd h) (by grind [numB_len, ballB_len, cmdB_len, attB_len, List.length_append]) _ h5) fun _ _ _ e f H2 => ?_); subst e; clear f; clear H; have H := H2; clear H2; simp (disch := omega) only [go_sem, undef, H.cs, *])
    | ((with_reducible refine tN0 H (fun h => ref15_attr_w (byA_rd h) (by grind [numB_len, ballB_len, cmdB_len, attB_len, List.length_append]) _ h6) fun _ _ _ e f H2 => ?_); subst e; clear f; clear H; have H := H2; clear H2; simp (disch := omega) only [go_sem, undef, H.cs, *])
    | ((with_reducible refine tN1 H (fun h => ref15_attr_w (byA_rd h) (by grind [numB_len, ballB_len, cmdB_len, attB_len, List.length_append]) _ h6) fun _ _ _ e f H2 => ?_); subst e; clear f; clear H; have H := H2; clear H2; simp (disch := omega) only [go_sem, undef, H.cs, *])
    | ((with_reducible refine tN2 H (fun h => ref15_attr_w (byA_rd h) (by grind [numB_len, ballB_len, cmdB_len, attB_len, List.length_append]) _ h6) fun _ _ _ e f H2 => ?_); subst e; clear f; clear H; have H := H2; clear H2; simp (disch := omega) only [go_sem, undef, H.cs, *])
    | ((with_reducible refine tN0 H (fun h => ref1_Flag_w (byA_rd h) (by grind [numB_len, ballB_len, cmdB_len, attB_len, List.length_append]) _) fun _ _ _ e f H2 => ?_); subst e; clear f; clear H; have H := H2; clear H2; simp (disch := omega) only [go_sem, undef, H.cs, *])
    | ((with_reducible refine tN1 H (fun h => ref1_Flag_w (byA_rd h) (by grind [numB_len, ballB_len, cmdB_len, attB_len, List.length_append]) _) fun _ _ _ e f H2 => ?_); subst e; clear f; clear H; have H := H2; clear H2; simp (disch := omega) only [go_sem, undef, H.cs, *])
    | ((with_reducible refine tN2 H (fun h => ref1_Flag_w (byA_rd h) (by grind [numB_len, ballB_len, cmdB_len, attB_len, List.length_append]) _) fun _ _ _ e f H2 => ?_); subst e; clear f; clear H; have H := H2; clear H2; simp (disch := omega) only [go_sem, undef, H.cs, *])
    | ((with_reducible refine gQ_split (fun hq => ?_) (fun hq => ?_)) <;> (try simp only [Bool.not_true, Bool.not_false] at hq) <;> simp (disch := omega) only [go_sem, undef, H.cs, *])
    | ((with_reducible refine condB_split (fun hq => ?_) (fun hq => ?_)) <;> simp (disch := omega) only [go_sem, undef, H.cs, *]))
  all_goals (simp only [decide_eq_true_eq, decide_eq_false_iff_not] at *)
  all_goals exact post_intro (CN_end H (by
    rw [celB]
    first
      | rw [if_pos hq]
      | rw [if_neg hq]
    simp only [List.append_assoc, List.append_nil]))
theorem ref15_Record_w (i : Int × Int) (hi : (-9223372036854775808 ≤ i.1 ∧ i.1 ≤ 9223372036854775807) ∧ -9223372036854775808 ≤ i.2 ∧ i.2 ≤ 9223372036854775807) (c : Cel) (hc : c.right) : CN Try.prog n_ref15_Record [pv i, c.v] m fun u A => A = byA T_uint8 u (recB i c) := by
  refine ref15_Record_go (Nat.le_of_ble_eq_true rfl) ?_
  have H := Hq.refl m []
  simp (disch := omega) only [go_sem, undef]
  repeat' (first
    | ((with_reducible refine newQ H fun _ _ f H2 => ?_); clear f; clear H; have H := H2; clear H2; simp (disch := omega) only [go_sem, undef, H.cs, *])
    | ((with_reducible refine wrQ0 H fun _ f H2 => ?_); clear f; clear H; have H := H2; clear H2; simp (disch := omega) only [go_sem, undef, H.cs, *])
    | ((with_reducible refine wrQ1 H fun _ f H2 => ?_); clear f; clear H; have H := H2; clear H2; simp (disch := omega) only [go_sem, undef, H.cs, *])
    | ((with_reducible refine wrQ2 H fun _ f H2 => ?_); clear f; clear H; have H := H2; clear H2; simp (disch := omega) only [go_sem, undef, H.cs, *])
    | ((with_reducible refine wrQ3 H fun _ f H2 => ?_); clear f; clear H; have H := H2; clear H2; simp (disch := omega) only [go_sem, undef, H.cs, *])
    | ((with_reducible refine wrQ4 H fun _ f H2 => ?_); clear f; clear H; have H := H2; clear H2; simp (disch := omega) only [go_sem, undef, H.cs, *])
    | ((with_reducible refine wrQ5 H fun _ f H2 => ?_); clear f; clear H; have H := H2; clear H2; simp (disch := omega) only [go_sem, undef, H.cs, *])
    | ((with_reducible refine stwQ0 H ?hl ?h1 fun _ f H2 => ?_); (case hl => rfl); (case h1 => rfl); clear f; clear H; have H := H2; clear H2; simp (disch := omega) only [go_sem, undef, H.cs, *])
    | ((with_reducible refine stwQ1 H ?hl ?h1 fun _ f H2 => ?_); (case hl => rfl); (case h1 => rfl); clear f; clear H; have H := H2; clear H2; simp (disch := omega) only [go_sem, undef, H.cs, *])
    | ((with_reducible refine stwQ2 H ?hl ?h1 fun _ f H2 => ?_); (case hl => rfl); (case h1 => rfl); clear f; clear H; have H := H2; clear H2; simp (disch := omega) only [go_sem, undef, H.cs, *])
    | ((with_reducible refine stwQ3 H ?hl ?h1 fun _ f H2 => ?_); (case hl => rfl); (case h1 => rfl); clear f; clear H; have H := H2; clear H2; simp (disch := omega) only [go_sem, undef, H.cs, *])
    | ((with_reducible refine stwQ4 H ?hl ?h1 fun _ f H2 => ?_); (case hl => rfl); (case h1 => rfl); clear f; clear H; have H := H2; clear H2; simp (disch := omega) only [go_sem, undef, H.cs, *])
    | ((with_reducible refine stwQ5 H ?hl ?h1 fun _ f H2 => ?_); (case hl => rfl); (case h1 => rfl); clear f; clear H; have H := H2; clear H2; simp (disch := omega) only [go_sem, undef, H.cs, *])
    | ((with_reducible refine stQ0 H ?hl ?h1 fun _ f H2 => ?_); (case hl => exact Nat.le_of_ble_eq_true rfl); (case h1 => rfl); clear f; (simp only [go_sem] at H2); clear H; have H := H2; clear H2; simp (disch := omega) only [go_sem, undef, H.cs, *])
    | ((with_reducible refine stQ1 H ?hl ?h1 fun _ f H2 => ?_); (case hl => exact Nat.le_of_ble_eq_true rfl); (case h1 => rfl); clear f; (simp only [go_sem] at H2); clear H; have H := H2; clear H2; simp (disch := omega) only [go_sem, undef, H.cs, *])
    | ((with_reducible refine stQ2 H ?hl ?h1 fun _ f H2 => ?_); (case hl => exact Nat.le_of_ble_eq_true rfl); (case h1 => rfl); clear f; (simp only [go_sem] at H2); clear H; have H := H2; clear H2; simp (disch := omega) only [go_sem, undef, H.cs, *])
    | ((with_reducible refine stQ3 H ?hl ?h1 fun _ f H2 => ?_); (case hl => exact Nat.le_of_ble_eq_true rfl); (case h1 => rfl); clear f; (simp only [go_sem] at H2); clear H; have H := H2; clear H2; simp (disch := omega) only [go_sem, undef, H.cs, *])
    | ((with_reducible refine callN H (ref15_inst_w (RdS.nil bc_len _) (by simp) _ hi) fun _ _ _ e f H2 => ?_); subst e; clear f; clear H; have H := H2; clear H2; simp (disch := omega) only [go_sem, undef, H.cs, *])
    | ((with_reducible refine tN0 H (fun h => ref15_PutCell_w (byA_rd h) (by grind [numB_len, ballB_len, cmdB_len, attB_len, List.length_append, List.length_nil]) _ hc) fun _ _ _ e f H2 => ?_); subst e; clear f; clear H; have H := H2; clear H2; simp (disch := omega) only [go_sem, undef, H.cs, *])
    | ((with_reducible refine tN1 H (fun h => ref15_PutCell_w (byA_rd h) (by grind [numB_len, ballB_len, cmdB_len, attB_len, List.length_append, List.length_nil]) _ hc) fun _ _ _ e f H2 => ?_); subst e; clear f; clear H; have H := H2; clear H2; simp (disch := omega) only [go_sem, undef, H.cs, *])
    | ((with_reducible refine tN2 H (fun h => ref15_PutCell_w (byA_rd h) (by grind [numB_len, ballB_len, cmdB_len, attB_len, List.length_append, List.length_nil]) _ hc) fun _ _ _ e f H2 => ?_); subst e; clear f; clear H; have H := H2; clear H2; simp (disch := omega) only [go_sem, undef, H.cs, *])
    | ((with_reducible refine gQ_split (fun hq => ?_) (fun hq => ?_)) <;> (try simp only [Bool.not_true, Bool.not_false] at hq) <;> simp (disch := omega) only [go_sem, undef, H.cs, *])
    | ((with_reducible refine condB_split (fun hq => ?_) (fun hq => ?_)) <;> simp (disch := omega) only [go_sem, undef, H.cs, *]))
  exact post_intro (CN_end H (by simp [recB]))
end Go.Fw
