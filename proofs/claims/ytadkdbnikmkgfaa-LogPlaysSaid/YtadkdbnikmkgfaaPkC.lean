import Derived.Test.YtadkdbnikmkgfaaPkB
set_option linter.unusedSimpArgs false
set_option linter.unusedVariables false
namespace Go.Fw
open Go.Proofs
variable {m : Mem}
theorem word_Zig_s (n : Int) (h : -9223372036854775808 ≤ n ∧ n ≤ 9223372036854775807) : MC Try.prog n_word_Zig [.int .i64 n] m fun v M => v = .int .u64 ((zig n : Nat) : Int) ∧ Fr m M [] := by
  refine word_Zig_go (by simp [Try.f33]) ?_
  have e1 : ∀ M, rd (.ish .shr) [.int .i64 n, .int .u64 63] M = some (.int .i64 (if n < 0 then -1 else 0)) := fun M => by
    show (if (63 : Int) < 0 then none else some (Value.int .i64 (n.fdiv (2 ^ min (63 : Int).toNat 64)))) = _
    rw [if_neg (by omega)]
    congr 2
    rw [Int.fdiv_eq_ediv_of_nonneg _ (by decide)]
    show n / 9223372036854775808 = _
    split <;> omega
  have e2 : ∀ M, rd (.ish .shl) [.int .u64 (IntKind.u64.wrap n), .int .u64 1] M = some (.int .u64 ((2 * n % 18446744073709551616).toNat : Nat)) := fun M => by
    show (if (1 : Int) < 0 then none else some (Value.int .u64 (IntKind.u64.wrap (IntKind.u64.wrap n * 2 ^ min (1 : Int).toNat 64)))) = _
    rw [if_neg (by omega)]
    congr 2
    show IntKind.u64.wrap (IntKind.u64.wrap n * 2) = _
    simp [IntKind.wrap, IntKind.bits, IntKind.signed]; omega
  by_cases h0 : n < 0
  · simp (disch := omega) only [go_sem, undef, e1, e2, if_pos h0, show IntKind.u64.wrap (-1) = 18446744073709551615 from by decide, rd_u64_xor1 (2 * n % 18446744073709551616).toNat (by omega)]
    refine ⟨?_, Fr.refl _ _⟩
    congr 1
    simp only [zig, if_pos h0]; omega
  · simp (disch := omega) only [go_sem, undef, e1, e2, if_neg h0, show IntKind.u64.wrap 0 = 0 from by decide, rd_u64_xor0 (2 * n % 18446744073709551616).toNat (by omega)]
    refine ⟨?_, Fr.refl _ _⟩
    congr 1
    simp only [zig, if_neg h0]; omega
theorem flat1 (n : Nat) (v : Value) : ((List.replicate n [v]).flatten).length = n := by simp
theorem pack_grown_s {v : Value} {l : List UInt8} (hv : RdB m v l) (hl : l.length ≤ 1099511627776) (k : Nat) (hk : k ≤ 1099511627776) : CN Try.prog n_pack_grown [v, .int .i64 (k : Int)] m fun u A => A = byA T_uint8 u l := by
  obtain ⟨a, c, rfl⟩ := hv.form
  refine pack_grown_go (by simp [Try.f33]) ?_
  have H := Hq.refl m []
  simp (disch := omega) only [go_sem, undef]
  refine newQ H fun b M f H => ?_
  have H := H.toRow 1 0 (l.length + k) (by simp; omega) (by omega)
  simp only [Nat.zero_mul, List.take_zero] at H
  have e1 : ((l.length : Int) + (k : Int)).toNat = l.length + k := by omega
  simp (disch := omega) only [go_sem, undef, e1]
  have hv2 := hv.frame f
  refine appQ0 H (k := l.length) rfl (ldS_of hv2) (by rw [bys_len]; omega) (bys_one l) rfl (by omega) (by omega) fun u M f H => ?_
  simp (disch := omega) only [go_sem, undef]
  refine ⟨byA T_uint8 u l, rfl, ?_, H.fr, fun b hb => (H.done.2.2 b hb).resolve_left (by simp)⟩
  have := H.hs.1
  simpa using this
theorem numF_len (f u : Nat) : (numF f u).length ≤ f := by
  induction f generalizing u with
  | zero => simp [numF]
  | succ f ih => simp only [numF]; split <;> simp; exact ih _
theorem numB_len (n : Int) : (numB n).length ≤ 10 := numF_len _ _
theorem pack_num_s {v : Value} {l : List UInt8} (hv : (byA T_uint8 v l).p m) (hl : l.length ≤ 1099511627776) (n : Int) (hn : -9223372036854775808 ≤ n ∧ n ≤ 9223372036854775807) : CM Try.prog n_pack_num [v, .int .i64 n] m (byA T_uint8 v l) fun u A => A = byA T_uint8 u (l ++ numB n) := by
  refine pack_num_go (by simp [Try.f33]) ?_
  have H := Hq.one hv
  simp (disch := omega) only [go_sem, undef]
  refine callQ H (word_Zig_s n hn) fun M f H => ?_
  simp (disch := omega) only [go_sem, undef]
  refine loopQ_intro (fun k E m' => ∃ i q done w, k = 10 - i ∧ E = [(0, w), (5, .int .u64 (q : Nat))] ∧ i ≤ 9 ∧ q < 2 ^ (64 - 7 * i) ∧ done.length = i ∧ numB n = done ++ numF (10 - i) q ∧ Hq m m' (blkOf v) [byA T_uint8 w (l ++ done)]) 10 rfl ⟨0, zig n, [], v, rfl, rfl, by omega, by simpa using zig_lt n hn, rfl, rfl, by simpa using H⟩ ?_
  clear H f hv
  rintro k E m' ⟨i, q, done, w, rfl, rfl, hi, hq, hd, he, H⟩
  have hp : (2 : Nat) ^ (64 - 7 * i) = if i = 9 then 2 else 2 ^ (64 - 7 * (i + 1)) * 128 := by
    split
    · rename_i e; subst e; decide
    · rw [show 64 - 7 * i = (64 - 7 * (i + 1)) + 7 from by omega, Nat.pow_add]
  have hq64 : q < 18446744073709551616 := Nat.lt_of_lt_of_le hq (Nat.le_trans (Nat.pow_le_pow_right (by omega) (show 64 - 7 * i ≤ 64 by omega)) (by decide))
  simp (disch := omega) only [go_sem, undef, u64_in]
  by_cases h1 : 128 ≤ q
  · have hi9 : i ≠ 9 := by
      rintro rfl
      simp at hp; omega
    rw [if_neg hi9] at hp
    simp (disch := omega) only [go_sem, undef, dec_t, u8_wrap, rd_u8_or (q % 256) (by omega)]
    refine newQ H fun b1 M f H => ?_
    simp (disch := omega) only [go_sem, undef]
    refine appQ1 H (k := 1) rfl (ldS_cell (l := [_]) H.cs.1 (by simp)) rfl (by simp [Value.oneCell']) rfl (by simp; omega) (by simp; omega) fun w2 M f H => ?_
    have H := H.tail
    rw [show [Value.int IntKind.u8 ((q % 256 % 128 + 128 : Nat) : Int)].take (1 * 1) = bys [UInt8.ofNat (q % 128 + 128)] from by
      show [Value.int IntKind.u8 _] = [bv _]
      rw [← bv_of _ (by omega), show q % 256 % 128 = q % 128 from by omega]] at H
    have H : Hq m M (blkOf v) [byA T_uint8 w2 (l ++ (done ++ [UInt8.ofNat (q % 128 + 128)]))] := by
      rw [← List.append_assoc, ← byA_app]; exact H
    simp (disch := omega) only [go_sem, undef, rd_u64_shr q 7 7 rfl (by omega)]
    have e10 : 10 - i = (10 - (i + 1)) + 1 := by omega
    rw [e10, numF, if_neg (by omega)] at he
    exact handN_intro (10 - (i + 1)) (by omega) ⟨i + 1, q / 2 ^ 7, _, w2, rfl, rfl, by omega, by rw [hp] at hq; exact Nat.div_lt_of_lt_mul (by omega), by simp [hd], by rw [he]; simp, H⟩
  · simp (disch := omega) only [go_sem, undef, dec_f, u8_wrap]
    refine newQ H fun b1 M f H => ?_
    simp (disch := omega) only [go_sem, undef]
    refine appQ1 H (k := 1) rfl (ldS_cell (l := [_]) H.cs.1 (by simp)) rfl (by simp [Value.oneCell']) rfl (by simp; omega) (by simp; omega) fun w2 M f H => ?_
    have H := H.tail
    rw [show [Value.int IntKind.u8 ((q % 256 : Nat) : Int)].take (1 * 1) = bys [UInt8.ofNat q] from by
      show [Value.int IntKind.u8 _] = [bv _]
      rw [show q % 256 = q from by omega, ← bv_of _ (by omega)]] at H
    have e10 : 10 - i = (10 - (i + 1)) + 1 := by omega
    rw [e10, numF, if_pos (by omega)] at he
    have H : Hq m M (blkOf v) [byA T_uint8 w2 (l ++ numB n)] := by
      rw [he, ← List.append_assoc, ← byA_app]; exact H
    simp (disch := omega) only [go_sem, undef]
    exact ⟨_, rfl, H.hs.1, H.fr, fun b hb => H.done.2.2 b hb, fun b hb => H.done.2.2 b hb⟩
theorem pack_Num_w {v : Value} {l : List UInt8} (hv : RdB m v l) (hl : l.length ≤ 549755813888) (n : Int) (hn : -9223372036854775808 ≤ n ∧ n ≤ 9223372036854775807) : CN Try.prog n_pack_Num [v, .int .i64 n] m fun u A => A = byA T_uint8 u (l ++ numB n) := by
  refine pack_Num_go (by simp [Try.f33]) ?_
  have H := Hq.refl m []
  simp (disch := omega) only [go_sem, undef]
  refine callN H (pack_grown_s hv (by omega) 10 (by omega)) fun u M A' eA f H => ?_
  subst eA
  simp (disch := omega) only [go_sem, undef]
  refine callA0 H (pack_num_s (H.at 0 rfl) (by omega) n hn) fun u M A' eA f H => ?_
  subst eA
  simp (disch := omega) only [go_sem, undef]
  exact ⟨_, rfl, H.hs.1, H.fr, fun b hb => (H.done.2.2 b hb).resolve_left (by simp)⟩
theorem pack_Text_w {v : Value} {l : List UInt8} (hv : RdB m v l) (hl : l.length ≤ 549755813888) (s : ByteArray) (hs : s.size ≤ 549755813888) : CN Try.prog n_pack_Text [v, .string s] m fun u A => A = byA T_uint8 u (l ++ textB s) := by
  refine pack_Text_go (by simp [Try.f33]) ?_
  have H := Hq.refl m []
  have hn := numB_len s.size
  simp (disch := omega) only [go_sem, undef]
  refine callN H (pack_grown_s hv (by omega) (10 + s.size) (by omega)) fun u M A' eA f H => ?_
  subst eA
  simp (disch := omega) only [go_sem, undef]
  refine callA0 H (pack_num_s (H.at 0 rfl) (by omega) s.size (by omega)) fun u M A' eA f H => ?_
  subst eA
  simp (disch := omega) only [go_sem, undef]
  refine apsQ0 H (by rw [List.length_append]; omega) fun u M f H => ?_
  rw [str_bys, show s.size = s.data.toList.length from rfl, byA_app] at H
  simp (disch := omega) only [go_sem, undef]
  exact ⟨byA T_uint8 u (l ++ textB s), rfl, by rw [textB, ← List.append_assoc]; exact H.hs.1, H.fr, fun b hb => (H.done.2.2 b hb).resolve_left (by simp)⟩
theorem pack_Flag_w {v : Value} {l : List UInt8} (hv : RdB m v l) (hl : l.length ≤ 549755813888) (x : Bool) : CN Try.prog n_pack_Flag [v, .bool x] m fun u A => A = byA T_uint8 u (l ++ flagB x) := by
  refine pack_Flag_go (by simp [Try.f33]) ?_
  have H := Hq.refl m []
  cases x
  · simp (disch := omega) only [go_sem, undef]
    refine callN H (pack_grown_s hv (by omega) 1 (by omega)) fun u M A' eA f H => ?_
    subst eA
    simp (disch := omega) only [go_sem, undef]
    refine newQ H fun b1 M f H => ?_
    simp (disch := omega) only [go_sem, undef]
    refine appQ1 H (k := 1) rfl (ldS_cell (l := [_]) H.cs.1 (by simp)) rfl (by simp [Value.oneCell']) rfl (by omega) (by omega) fun w2 M f H => ?_
    have H := H.tail
    rw [show [Value.int IntKind.u8 0].take (1 * 1) = bys [0] from rfl, show l.length + 1 = l.length + [(0 : UInt8)].length from rfl, byA_app] at H
    simp (disch := omega) only [go_sem, undef]
    exact ⟨_, rfl, H.hs.1, H.fr, fun b hb => (H.done.2.2 b hb).resolve_left (by simp)⟩
  · simp (disch := omega) only [go_sem, undef]
    refine callN H (pack_grown_s hv (by omega) 1 (by omega)) fun u M A' eA f H => ?_
    subst eA
    simp (disch := omega) only [go_sem, undef]
    refine newQ H fun b1 M f H => ?_
    simp (disch := omega) only [go_sem, undef]
    refine appQ1 H (k := 1) rfl (ldS_cell (l := [_]) H.cs.1 (by simp)) rfl (by simp [Value.oneCell']) rfl (by omega) (by omega) fun w2 M f H => ?_
    have H := H.tail
    rw [show [Value.int IntKind.u8 1].take (1 * 1) = bys [1] from rfl, show l.length + 1 = l.length + [(1 : UInt8)].length from rfl, byA_app] at H
    simp (disch := omega) only [go_sem, undef]
    exact ⟨_, rfl, H.hs.1, H.fr, fun b hb => (H.done.2.2 b hb).resolve_left (by simp)⟩
theorem pack_Read_s {v : Value} {l : List UInt8} (hv : RdB m v l) (hl : l.length ≤ 1099511627776) : CN Try.prog n_pack_Read [v] m fun u A => ∃ rb a c, u = lpp rb ∧ A = rdrA T_pack_Reader rb a c l ⟨0, 0⟩ := by
  refine pack_Read_go (by simp [Try.f33]) ?_
  have H := Hq.refl m []
  simp (disch := omega) only [go_sem, undef]
  refine callN H (pack_grown_s hv (by omega) 0 (by omega)) fun u M A' eA f H => ?_
  subst eA
  refine Own.formK (H.at 0 rfl) fun a c e => ?_
  subst e
  simp (disch := omega) only [go_sem, undef]
  refine newQ H fun rb M f H => ?_
  simp (disch := omega) only [go_sem, undef]
  have hd := H.dj
  have h0 : ∀ b ∈ rb :: bk (.slice a l.length c) l, m b = none := fun b hb => by
    rcases List.mem_cons.1 hb with rfl | hb
    · exact (H.done.2.2 b (by simp)).resolve_left (by simp)
    · exact ((H.tail).done.2.2 b (bk_sub b hb)).resolve_left (by simp)
  refine ⟨_, ⟨rb, a, c, rfl, rfl⟩, ?_, H.fr, h0⟩
  exact ⟨H.cs.1, byA_rd (H.at 1 rfl), by have := (List.pairwise_cons.1 hd).1 _ (List.mem_cons_self ..); exact fun h => this.1 rb (by simp) (bk_sub _ h), fun x hx => (H.at 1 rfl).there x (bk_sub _ hx), by simp, hl⟩
end Go.Fw
