import Derived.Test.YtbbiiodadoeflaaGreatDoorWa
import Derived.Test.YtbbiiodadoeflaaGreatDoorCd
import Derived.Test.YtbbiiodadoeflaaGreatDoorWe
import Derived.Test.YtbbiiodadoeflaaGreatDoorWc
set_option linter.unusedVariables false
set_option linter.unusedSimpArgs false
namespace Go.Fw
open Go.Proofs
variable {m m0 M : Mem} {S : List Nat} {L : List As}
/-! the document's bytes and sums -/
set_option maxHeartbeats 4000000 in
theorem ref1_On_s {v : Value} {l : Bs} (hv : RdB m v l) (hl : l.length ≤ 1099511627776) (c : Nat) (hc : c < 2 ^ 32) : MC Tryz.prog n_ref1_On [.int .u32 (c : Int), v] m fun u M => u = .int .u32 ((crcL l (c ^^^ 0xFFFFFFFF) ^^^ 0xFFFFFFFF : Nat) : Int) ∧ Fr m M [] := by
  obtain ⟨a, cc, rfl⟩ := hv.form
  refine ref1_On_go (by simp [Tryz.f33]) ?_
  have hc1 : c ^^^ 0xFFFFFFFF < 2 ^ 32 := Nat.xor_lt_two_pow hc (by decide)
  simp (disch := omega) only [go_sem, undef, rd_u32_cpl c hc]
  generalize c ^^^ 0xFFFFFFFF = c1 at *
  refine loopQ_intro (fun k E m' => ∃ j, j ≤ l.length ∧ k = l.length - j ∧ E = [(0, .int .u32 ((crcL (l.take j) c1 : Nat) : Int)), (1, .slice a l.length cc), (5, .int .i64 (j : Nat))] ∧ m' = m) l.length rfl ⟨0, by omega, by omega, rfl, rfl⟩ ?_
  rintro k E M1 ⟨j, hj, rfl, rfl, rfl⟩
  have h1 := crcL_lt (l.take j) hc1
  simp (disch := omega) only [go_sem, undef]
  refine condB_dec (fun hlt => ?_) (fun hlt => ?_)
  · have hlt : j < l.length := by omega
    refine RdS.elK hv hlt (by decide) fun bx o x hx hix hE => ?_
    have hs : crcL (l.take (j + 1)) c1 = crcX (crcL (l.take j) c1) x := by rw [List.take_add_one, hx, Option.toList_some, crcL_snoc]
    generalize crcL (l.take j) c1 = q at *
    have hxl := x.toNat_lt
    have h2 : q ^^^ x.toNat < 2 ^ 32 := Nat.xor_lt_two_pow h1 (by omega)
    have hw : IntKind.u32.wrap ((x.toNat : Nat) : Int) = (x.toNat : Nat) := by rw [u32_in]; omega
    have hX : crcX q x = crcN 8 (q ^^^ x.toNat) := rfl
    simp (disch := omega) only [go_sem, undef, hix, hE.ld0, hw, rd_u32_xor q x.toNat h1 (by omega)]
    generalize q ^^^ x.toNat = d at *
    refine loopQ_intro (fun k E m' => ∃ i, i ≤ 8 ∧ k = 8 - i ∧ E = [(0, .int .u32 ((crcN i d : Nat) : Int)), (1, .slice a l.length cc), (5, .int .i64 (j : Nat)), (6, .int .i64 (i : Nat))] ∧ m' = M1) 8 rfl ⟨0, by omega, by omega, rfl, rfl⟩ ?_
    rintro k E m' ⟨i, hi, rfl, rfl, rfl⟩
    have h3 := crcN_lt i h2
    simp (disch := omega) only [go_sem, undef]
    refine condB_dec (fun hil => ?_) (fun hil => ?_)
    · have hil : i < 8 := by omega
      have hss := crcN_succ i d
      generalize crcN i d = g at *
      by_cases hodd : g % 2 = 1
      · have hB : crcB g = (g / 2) ^^^ 0xEDB88320 := by unfold crcB; rw [if_pos hodd]
        simp (disch := omega) only [go_sem, undef, rd_u32_and1 g h3, rd_u32_shr1, dec_t (show ((g % 2 : Nat) : Int) = 1 by omega), rd_u32_xor' (g / 2) 3988292384 0xEDB88320 rfl (by omega) (by decide)]
        exact handN_intro (8 - (i + 1)) (by omega) ⟨i + 1, by omega, rfl, by rw [hss, hB] <;> rfl, rfl⟩
      · have hB : crcB g = g / 2 := by unfold crcB; rw [if_neg hodd]
        simp (disch := omega) only [go_sem, undef, rd_u32_and1 g h3, rd_u32_shr1, dec_f (show ¬ ((g % 2 : Nat) : Int) = 1 by omega)]
        exact handN_intro (8 - (i + 1)) (by omega) ⟨i + 1, by omega, rfl, by rw [hss, hB] <;> rfl, rfl⟩
    · have e : i = 8 := by omega
      subst e
      simp (disch := omega) only [go_sem, undef]
      exact handN_intro (l.length - (j + 1)) (by omega) ⟨j + 1, by omega, rfl, by rw [hs, hX] <;> rfl, rfl⟩
  · have e : j = l.length := by omega
    subst e
    rw [List.take_length] at *
    simp (disch := omega) only [go_sem, undef, rd_u32_cpl _ h1]
    exact ⟨rfl, Fr.refl _ _⟩
theorem rd_u64_shr' {m : Mem} (a : Nat) (kd : IntKind) (k : Int) (b : Nat) (hk : k = b) (hb : b ≤ 64) : rd (.ish .shr) [.int .u64 (a : Int), .int kd k] m = some (.int .u64 ((a / 2 ^ b : Nat) : Int)) := rd_u64_shr (m := m) a k b hk hb
set_option maxHeartbeats 4000000 in
theorem ref1_Put_s {v : Value} {l : Bs} (hv : RdB m v l) (hl : l.length ≤ 1099511627776) (n : Nat) (hn : n ≤ 8) (u : Nat) (hu : u < 2 ^ 64) : CN Tryz.prog n_ref1_Put [v, .int .i64 (n : Int), .int .u64 (u : Int)] m fun w A => A = byA T_uint8 w (l ++ le n u) := by
  obtain ⟨a, c, rfl⟩ := hv.form
  refine ref1_Put_go (by simp [Tryz.f33]) ?_
  have H := Hq.refl m []
  simp (disch := omega) only [go_sem, undef]
  refine newQ H fun b M f H => ?_
  simp (disch := omega) only [go_sem, undef]
  have H := H.toRow (l := []) 1 0 0 rfl (by omega)
  simp only [Nat.zero_mul, List.take_zero] at H
  have hv2 := hv.frame f
  refine appQ0 H (k := l.length) rfl (ldS_of hv2) (by rw [bys_len]; omega) (bys_one l) rfl (by omega) (by omega) fun w M f H => ?_
  have ht : (bys l ++ List.nil).take 0 = [] := rfl
  have H : Hq m M [] [byA T_uint8 w (l ++ le 0 u)] := by simpa [le, bys, ownA, byA] using H
  simp (disch := omega) only [go_sem, undef]
  refine loopQ_intro (fun k E m' => ∃ i w2, i ≤ n ∧ k = n - i ∧ E = [(1, .int .i64 (n : Nat)), (2, .int .u64 (u : Nat)), (7, w2), (8, .int .i64 (i : Nat))] ∧ Hq m m' [] [byA T_uint8 w2 (l ++ le i u)]) n rfl ⟨0, w, by omega, by omega, rfl, H⟩ ?_
  clear H hv hv2 f ht
  rintro k E M1 ⟨i, w2, hi, rfl, rfl, H⟩
  have hq : u / 256 ^ i < 18446744073709551616 := Nat.lt_of_le_of_lt (Nat.div_le_self ..) hu
  have hs := le_snoc i u
  have hle := le_len i u
  by_cases hlt : i < n
  · simp (disch := omega) only [go_sem, undef, dec_t (show ((i : Nat) : Int) < (n : Nat) by omega), dec_t (show ((i : Nat) : Int) < 8 by omega), show (8 : Int) * (i : Nat) = ((8 * i : Nat) : Int) from by omega, rd_u64_shr' u .i64 ((8 * i : Nat) : Int) (8 * i) rfl (by omega), u8_wrap]
    rw [two_mul8]
    generalize u / 256 ^ i = q at *
    refine newQ H fun b1 M f H => ?_
    simp (disch := omega) only [go_sem, undef]
    refine appQ1 H (k := 1) rfl (ldS_cell (l := [_]) H.cs.1 (by simp)) rfl (by simp [Value.oneCell']) rfl (by simp; omega) (by simp; omega) fun w3 M f H => ?_
    have H := H.tail
    rw [show [Value.int IntKind.u8 ((q % 256 : Nat) : Int)].take (1 * 1) = bys [UInt8.ofNat (q % 256)] from by
      show [Value.int IntKind.u8 _] = [bv _]
      rw [← bv_of _ (by omega)]] at H
    have H : Hq m M [] [byA T_uint8 w3 (l ++ le (i + 1) u)] := by
      rw [hs, ← List.append_assoc, ← byA_app]; exact H
    simp (disch := omega) only [go_sem, undef]
    exact handN_intro (n - (i + 1)) (by omega) ⟨i + 1, w3, by omega, rfl, rfl, H⟩
  · have e : i = n := by omega
    subst e
    simp (disch := omega) only [go_sem, undef, dec_f (show ¬ ((i : Nat) : Int) < (i : Nat) by omega)]
    exact ⟨_, rfl, H.hs.1, H.fr, fun b hb => (H.done.2.2 b hb).resolve_left (by simp)⟩
end Go.Fw
namespace Go.Fw
open Go.Proofs
variable {m m0 M : Mem} {S : List Nat} {L : List As}
theorem rd_u64_or2 (k u w : Nat) (hu : u < 2 ^ k) (hw : w % 2 ^ k = 0) (h : u + w < 2 ^ 64) : rd (.ibt .or) [.int .u64 (w : Int), .int .u64 (u : Int)] m = some (.int .u64 ((u + w : Nat) : Int)) := by
  rw [← rd_u64_or (m := m) k u w hu hw h]
  show some (Value.int .u64 (IntKind.u64.wrap _)) = some (Value.int .u64 (IntKind.u64.wrap _))
  congr 3
  rw [BitVec.or_comm]
set_option maxHeartbeats 4000000 in
theorem ref1_Get_s {v : Value} {l : Bs} (hv : RdB m v l) (hl : l.length ≤ 1099511627776) (p n : Nat) (hp : p ≤ l.length) (h1 : 1 ≤ n) (hn : n ≤ 8) :
    MC Tryz.prog n_ref1_Get [v, .int .i64 (p : Int), .int .i64 (n : Int)] m fun u M => u = .tuple #[.int .u64 ((if p + n ≤ l.length then ofLe ((l.drop p).take n) else 0 : Nat) : Int), .int .i64 (if p + n ≤ l.length then 0 else 3)] ∧ Fr m M [] := by
  obtain ⟨a, c, rfl⟩ := hv.form
  refine ref1_Get_go (by simp [Tryz.f33]) ?_
  simp (disch := omega) only [go_sem, undef, dec_f (show ¬ ((n : Int) < 1) by omega), dec_f (show ¬ ((n : Int) > 8) by omega), dec_f (show ¬ ((p : Int) < 0) by omega), dec_f (show ¬ ((p : Int) > (l.length : Nat)) by omega)]
  by_cases hs : p + n ≤ l.length
  · rw [if_pos hs, if_pos hs]
    have e2 : ((l.drop p).take n).length = n := by simp; omega
    have hel : ∀ j, j < n → l[p + j]? = ((l.drop p).take n)[j]? := fun j hj => by rw [List.getElem?_take_of_lt hj, List.getElem?_drop]
    generalize (l.drop p).take n = q at *
    simp (disch := omega) only [go_sem, undef, dec_f (show ¬ ((l.length : Nat) - (p : Int) < (n : Nat)) by omega)]
    refine loopQ_intro (fun k E m' => k ≤ n ∧ E = [(0, .slice a l.length c), (1, .int .i64 (p : Nat)), (8, .int .u64 ((ofLe (q.drop k) : Nat) : Int)), (9, .int .i64 (((k : Nat) : Int) - 1))] ∧ m' = m) n rfl ⟨Nat.le_refl _, by rw [← e2, List.drop_length]; rfl, rfl⟩ ?_
    rintro k E M1 ⟨hk, rfl, rfl⟩
    simp (disch := omega) only [go_sem, undef]
    refine condB_dec (fun hlt => ?_) (fun hlt => ?_)
    · obtain ⟨j, rfl⟩ : ∃ j, k = j + 1 := ⟨k - 1, by omega⟩
      refine RdS.elK hv (show p + j < l.length by omega) (by decide) fun bx o x hx hix hE => ?_
      rw [hel j (by omega)] at hx
      have hdr : q.drop j = x :: q.drop (j + 1) := by
        obtain ⟨h1, h2⟩ := List.getElem?_eq_some_iff.1 hx
        rw [← h2]; exact List.drop_eq_getElem_cons h1
      have hlt2 := ofLe_lt (q.drop (j + 1))
      rw [List.length_drop, e2] at hlt2
      have hb : (256 : Nat) ^ (n - (j + 1)) ≤ 256 ^ 7 := Nat.pow_le_pow_right (by omega) (by omega)
      have hxl := x.toNat_lt
      have hof : ofLe (q.drop j) = x.toNat + ofLe (q.drop (j + 1)) * 2 ^ 8 := by rw [hdr]; simp only [ofLe]; omega
      generalize ofLe (q.drop (j + 1)) = g at *
      have hg : g * 2 ^ 8 + 256 ≤ 2 ^ 64 := by omega
      simp (disch := omega) only [go_sem, undef, show ((p : Nat) : Int) + (((j + 1 : Nat) : Int) - 1) = ((p + j : Nat) : Int) from by omega, hix, hE.ld0, u64_in, rd_u64_shl' g .u64 8 8 rfl (by omega) (by omega), rd_u64_or2 8 x.toNat (g * 2 ^ 8) (by omega) (Nat.mul_mod_left _ _) (by omega)]
      exact handN_intro j (by omega) ⟨by omega, by rw [hof] <;> simp, rfl⟩
    · have e : k = 0 := by omega
      subst e
      rw [List.drop_zero]
      simp (disch := omega) only [go_sem, undef]
      exact ⟨rfl, Fr.refl _ _⟩
  · rw [if_neg hs, if_neg hs]
    simp (disch := omega) only [go_sem, undef, dec_t (show ((l.length : Nat) - (p : Int) < (n : Nat)) by omega)]
    exact ⟨rfl, Fr.refl _ _⟩
end Go.Fw
namespace Go.Fw
open Go.Proofs
variable {m m0 M : Mem} {S : List Nat} {L : List As}
theorem crcL_app (a b : Bs) (c : Nat) : crcL (a ++ b) c = crcL b (crcL a c) := by simp [crcL]
theorem crc_two (a b : Bs) : crcL b ((crcL a (0 ^^^ 0xFFFFFFFF) ^^^ 0xFFFFFFFF) ^^^ 0xFFFFFFFF) ^^^ 0xFFFFFFFF = crcO (a ++ b) := by
  rw [Nat.xor_assoc, Nat.xor_self, Nat.xor_zero, Nat.zero_xor, crcO, crcL_app]
set_option maxHeartbeats 8000000 in
theorem ref8_Frame_s {v u : Value} {l p : Bs} (hv : RdB m v l) (hu : RdB m u p) (hl : l.length ≤ 549755813888) (hp : p.length ≤ 549755813888) : CN Tryz.prog n_ref8_Frame [v, u] m fun w A => A = byA T_uint8 w (l ++ frO p) := by
  obtain ⟨a, c, rfl⟩ := hv.form
  obtain ⟨a2, c2, rfl⟩ := hu.form
  refine ref8_Frame_go (by simp [Tryz.f33]) ?_
  have H := Hq.refl m []
  simp (disch := omega) only [go_sem, undef]
  refine newQ H fun b M f H => ?_
  simp (disch := omega) only [go_sem, undef]
  have H := H.toRow (l := []) 1 0 0 rfl (by omega)
  simp only [Nat.zero_mul, List.take_zero] at H
  refine appQ0 H (k := l.length) rfl (ldS_of (hv.frame f)) (by rw [bys_len]; omega) (bys_one l) rfl (by omega) (by omega) fun w M2 f2 H => ?_
  have H : Hq m M2 [] [byA T_uint8 w l] := by simpa [bys, ownA, byA] using H
  have hu2 := hu.frame H.fr
  clear f f2
  by_cases h0 : okR p
  · have hpl := h0.1
    have hpu := h0.2
    simp (disch := omega) only [go_sem, undef, dec_f (show ¬ ((p.length : Int) = 0) by omega), dec_f (show ¬ ((p.length : Int) > 16384) by omega), u64_in]
    refine callN H (ref1_Put_s bytes_nil (by simp) 2 (by omega) p.length (by omega)) fun w2 M A' eA f H => ?_
    subst eA
    rw [List.nil_append] at H
    have hl2 := le_len 2 p.length
    generalize hq2 : le 2 p.length = q2 at *
    simp (disch := omega) only [go_sem, undef]
    refine Exists.elim (byA_rd (H.at 0 rfl)).end fun a3 hx => Exists.elim hx fun c3 hx => ?_
    obtain ⟨e3, hld⟩ := hx
    refine appQ1 H (k := q2.length) e3 (by rw [Nat.mul_one]; exact hld) (by rw [bys_len]; omega) (bys_one _) rfl (by omega) (by omega) fun w4 M2 f4 H => ?_
    have H : Hq m M2 [] [byA T_uint8 w2 q2, byA T_uint8 w4 (l ++ q2)] := by
      rw [← byA_app (l := l)]; exact H
    have hu3 := hu.frame H.fr
    clear hx hld f4 f hu2
    simp (disch := omega) only [go_sem, undef]
    refine appQ1 H (k := p.length) rfl (ldS_of hu3) (by rw [bys_len]; omega) (bys_one p) rfl (by rw [List.length_append]; omega) (by rw [List.length_append]; omega) fun w5 M3 f5 H => ?_
    have H : Hq m M3 [] [byA T_uint8 w2 q2, byA T_uint8 w5 (l ++ q2 ++ p)] := by
      rw [← byA_app (l := l ++ q2)]; exact H
    clear f5 hu3
    simp (disch := omega) only [go_sem, undef]
    refine callQ H (ref1_On_s (byA_rd (H.at 0 rfl)) (by omega) 0 (by decide)) fun M4 f H => ?_
    have hc1 : crcL q2 (0 ^^^ 0xFFFFFFFF) ^^^ 0xFFFFFFFF < 2 ^ 32 := Nat.xor_lt_two_pow (crcL_lt _ (by decide)) (by decide)
    have hcr := crc_two q2 p
    have hcl := crcO_lt (q2 ++ p)
    simp (disch := omega) only [go_sem, undef]
    refine callQ H (ref1_On_s (hu.frame H.fr) (by omega) _ hc1) fun M5 f6 H => ?_
    rw [hcr]
    generalize hk : crcO (q2 ++ p) = k at *
    simp (disch := omega) only [go_sem, undef, u64_in]
    refine callN H (ref1_Put_s (byA_rd (H.at 1 rfl)) (by simp only [List.length_append]; omega) 4 (by omega) k (by omega)) fun w6 M6 A' eA f7 H => ?_
    subst eA
    simp (disch := omega) only [go_sem, undef]
    have H := (H.drop 1).drop 1
    refine ⟨_, ?_, H.hs.1, H.fr, fun b hb => (H.done.2.2 b hb).resolve_left (by simp)⟩
    rw [frO, if_pos h0, frB, hdB, hq2, hk]
    simp only [List.append_assoc]
  · have e : frO p = [] := if_neg h0
    rw [e, List.append_nil]
    by_cases hz : p.length = 0
    · simp (disch := omega) only [go_sem, undef, dec_t (show ((p.length : Int) = 0) by omega)]
      exact ⟨_, rfl, H.hs.1, H.fr, fun b hb => (H.done.2.2 b hb).resolve_left (by simp)⟩
    · have : 16384 < p.length := by
        have h0 : ¬ (0 < p.length ∧ p.length ≤ 16384) := h0
        omega
      simp (disch := omega) only [go_sem, undef, dec_f (show ¬ ((p.length : Int) = 0) by omega), dec_t (show ((p.length : Int) > 16384) by omega)]
      exact ⟨_, rfl, H.hs.1, H.fr, fun b hb => (H.done.2.2 b hb).resolve_left (by simp)⟩
end Go.Fw
namespace Go.Fw
open Go.Proofs
variable {m m0 M : Mem} {S : List Nat} {L : List As}
set_option maxHeartbeats 4000000 in
theorem ref8_Next_s {v : Value} {l : Bs} (hv : RdB m v l) (hl : l.length ≤ 549755813888) (p : Nat) (hp : p ≤ l.length) : CN Tryz.prog n_ref8_Next [v, .int .i64 (p : Int)] m (NxR (l.drop p) p) := by
  obtain ⟨a, c, rfl⟩ := hv.form
  have hrl : (l.drop p).length = l.length - p := List.length_drop ..
  have hnx := nextF_eq (l.drop p)
  rw [hrl] at hnx
  have hlt := ofLe_lt ((l.drop p).take 2)
  generalize hn : ofLe ((l.drop p).take 2) = n at *
  rw [List.drop_drop, show p + (2 + n) = p + 2 + n from by omega, List.drop_drop] at hnx
  have hlt4 := ofLe_lt ((l.drop (p + 2 + n)).take 4)
  have hcr := crcO_lt ((l.drop p).take (2 + n))
  generalize hk1 : crcO ((l.drop p).take (2 + n)) = k1 at *
  generalize hk2 : ofLe ((l.drop (p + 2 + n)).take 4) = k2 at *
  refine ref8_Next_go (by simp [Tryz.f33]) ?_
  have H := Hq.refl m []
  simp (disch := omega) only [go_sem, undef, dec_f (show ¬ ((p : Int) < 0) by omega), dec_f (show ¬ ((p : Int) > (l.length : Nat)) by omega)]
  by_cases h2 : l.length - p < 2
  · rw [if_pos h2] at hnx
    simp (disch := omega) only [go_sem, undef, dec_t (show ((l.length : Nat) : Int) - (p : Nat) < 2 by omega)]
    exact nx_none 3 hnx (by decide) H.fr
  rw [if_neg h2] at hnx
  rw [List.length_take, hrl, show min 2 (l.length - p) = 2 from by omega] at hlt
  simp (disch := omega) only [go_sem, undef, dec_f (show ¬ ((l.length : Nat) : Int) - (p : Nat) < 2 by omega)]
  have hg := ref1_Get_s hv (by omega) p 2 (by omega) (by omega) (by omega)
  rw [if_pos (by omega), if_pos (by omega), hn] at hg
  refine callQ H hg fun M f H => ?_
  clear hg f
  simp (disch := omega) only [go_sem, undef, wrap_i64 (n := ((n : Nat) : Int)) (by omega) (by omega)]
  by_cases h3 : n = 0 ∨ 16384 < n
  · rw [if_pos h3] at hnx
    by_cases h4 : n = 0
    · simp (disch := omega) only [go_sem, undef, dec_t (show ((n : Nat) : Int) = 0 by omega)]
      exact nx_none 4 hnx (by decide) H.fr
    · simp (disch := omega) only [go_sem, undef, dec_f (show ¬ ((n : Nat) : Int) = 0 by omega), dec_t (show ((n : Nat) : Int) > 16384 by omega)]
      exact nx_none 4 hnx (by decide) H.fr
  rw [if_neg h3] at hnx
  simp (disch := omega) only [go_sem, undef, dec_f (show ¬ ((n : Nat) : Int) = 0 by omega), dec_f (show ¬ ((n : Nat) : Int) > 16384 by omega)]
  by_cases h5 : l.length - p < 2 + n + 4
  · rw [if_pos h5] at hnx
    simp (disch := omega) only [go_sem, undef, dec_t (show ((l.length : Nat) : Int) - (p : Nat) < (n : Nat) + 6 by omega)]
    exact nx_none 3 hnx (by decide) H.fr
  rw [if_neg h5] at hnx
  have ep2 : ((p : Nat) : Int) + 2 = ((p + 2 : Nat) : Int) := by omega
  have ep3 : ((p + 2 : Nat) : Int) + (n : Nat) = ((p + 2 + n : Nat) : Int) := by omega
  simp (disch := omega) only [go_sem, undef, dec_f (show ¬ ((l.length : Nat) : Int) - (p : Nat) < (n : Nat) + 6 by omega), ep2, ep3]
  have hg := ref1_Get_s (hv.frame H.fr) (by omega) (p + 2 + n) 4 (by omega) (by omega) (by omega)
  rw [if_pos (by omega), if_pos (by omega), hk2] at hg
  refine callQ H hg fun M2 f H => ?_
  clear hg f
  have hv2 := hv.frame H.fr
  refine Exists.elim (hv2.cut (by omega) p (p + 2 + n) (by omega) (by omega)) fun a3 hh => Exists.elim hh fun c3 hcr => ?_
  have hcut3 := hcr.1
  have hr3 := hcr.2.1
  clear hcr hh
  have e1 : (l.take (p + 2 + n)).drop p = (l.drop p).take (2 + n) := by rw [List.drop_take]; congr 1; omega
  rw [e1] at hr3
  have hl3 : ((l.drop p).take (2 + n)).length = 2 + n := by simp; omega
  simp (disch := omega) only [go_sem, undef, ep2, ep3, rd_slc11, hcut3]
  have hg := ref1_On_s hr3 (by omega) 0 (by decide)
  rw [Nat.zero_xor, show crcL ((l.drop p).take (2 + n)) 4294967295 ^^^ 4294967295 = k1 from hk1] at hg
  refine callQ H hg fun M3 f H => ?_
  rw [List.length_take, List.length_drop, show min 4 (l.length - (p + 2 + n)) = 4 from by omega] at hlt4
  clear hr3 f hv2
  simp (disch := omega) only [go_sem, undef, u64_in]
  by_cases h6 : k2 = k1
  · rw [if_neg (by simpa using h6)] at hnx
    have hv2 := hv.frame H.fr
    refine Exists.elim (hv2.cut (by omega) (p + 2) (p + 2 + n) (by omega) (by omega)) fun a4 hh => Exists.elim hh fun c4 hcr => ?_
    have hcut4 := hcr.1
    have hr4 := hcr.2.1
    clear hcr hh
    have e1 : (l.take (p + 2 + n)).drop (p + 2) = (l.drop (p + 2)).take n := by rw [List.drop_take]; congr 1; omega
    rw [e1] at hr4
    have e2 : ((l.drop (p + 2)).take n).length = n := by simp; omega
    rw [show p + 2 + n - (p + 2) = n from by omega] at hcut4 hr4
    generalize (l.drop (p + 2)).take n = q at hnx hr4 e2 hcut4
    simp (disch := omega) only [go_sem, undef, dec_f (show ¬ (((k1 : Nat) : Int) ≠ ((k2 : Nat) : Int)) by omega)]
    refine newQ H fun b M4 f4 H => ?_
    simp (disch := omega) only [go_sem, undef, ep2, ep3, rd_slc11, hcut4]
    have H := H.toRow (l := []) 1 0 0 rfl (by omega)
    simp only [Nat.zero_mul, List.take_zero] at H
    subst e2
    refine appQ0 (bytes := 1) (zero := [.int .u8 0]) H (k := q.length) rfl (ldS_of (hr4.frame f4)) (by rw [bys_len]; omega) (bys_one q) rfl (by omega) (by omega) fun w M f H => ?_
    have H : Hq m M [] [byA T_uint8 w q] := by simpa [bys, ownA, byA] using H
    simp (disch := omega) only [go_sem, undef]
    exact ⟨_, ⟨_, _, _, _, rfl, rfl, .inr ⟨_, hnx, by omega, rfl⟩⟩, H.hs.1, H.fr, fun b hb => (H.done.2.2 b hb).resolve_left (by simp)⟩
  · rw [if_pos h6] at hnx
    simp (disch := omega) only [go_sem, undef, dec_t (show (((k1 : Nat) : Int) ≠ ((k2 : Nat) : Int)) by omega)]
    exact nx_none 6 hnx (by decide) H.fr
set_option maxHeartbeats 4000000 in
theorem ref8_Scan_s {v : Value} {l : Bs} (hv : RdB m v l) (hl : l.length ≤ 500000000) : CN Tryz.prog n_ref8_Scan [v] m fun u A => ∃ w vs, u = .tuple #[w, .int .i64 (((scanF l).2 : Nat) : Int)] ∧ A = brA 37 w vs (scanF l).1 := by
  obtain ⟨a, c, rfl⟩ := hv.form
  refine ref8_Scan_go (by simp [Tryz.f33]) ?_
  have H := (Hq.refl m []).nilBr 37
  simp (disch := omega) only [go_sem, undef]
  refine loopQ_intro (fun k E m' => ∃ p w vs ls, p ≤ l.length ∧ k = l.length - p ∧ E = [(0, .slice a l.length c), (4, w), (5, .int .i64 (p : Nat))] ∧ scanF l = (ls ++ (scanF (l.drop p)).1, p + (scanF (l.drop p)).2) ∧ ls.length ≤ p ∧ Hq m m' [] [brA 37 w vs ls]) l.length rfl ⟨0, _, _, _, by omega, by omega, rfl, by simp, by simp, H⟩ ?_
  clear H
  rintro k E M1 ⟨p, w, vs, ls, hp, rfl, rfl, hs, hls, H⟩
  simp (disch := omega) only [go_sem, undef]
  refine callN H (ref8_Next_s (hv.frame H.fr) (by omega) p hp) fun u M A' hR f H => ?_
  obtain ⟨w2, q, n, e, rfl, rfl, hR⟩ := hR
  rcases hR with ⟨hn, he, rfl⟩ | ⟨n', hn, rfl, rfl⟩
  · rw [scanF_none hn, List.append_nil, Nat.add_zero] at hs
    have H := H.tail
    simp (disch := omega) only [go_sem, undef, dec_t (show e ≠ 0 from he)]
    rw [hs]
    exact ⟨_, ⟨_, _, rfl, rfl⟩, H.hs.1, H.fr, fun b hb => (H.done.2.2 b hb).resolve_left (by simp)⟩
  · have hpos := nextF_pos hn
    rw [List.length_drop] at hpos
    rw [scanF_some hn, List.drop_drop] at hs
    have hvl := brA_len (H.at 1 rfl)
    refine Own.formK (H.at 0 rfl) fun a2 c2 e2 => ?_
    subst e2
    simp (disch := omega) only [go_sem, undef]
    refine newQ H fun b1 M2 f2 H => ?_
    simp (disch := omega) only [go_sem, undef]
    refine app_br H rfl rfl (by omega) fun w' M3 H => ?_
    simp (disch := omega) only [go_sem, undef]
    exact handN_intro (l.length - (p + n')) (by omega) ⟨p + n', w', _, ls ++ [q], by omega, rfl, rfl, by rw [hs]; simp; omega, by simp; omega, H⟩
end Go.Fw
namespace Go.Fw
open Go.Proofs
variable {m m0 M : Mem} {S : List Nat} {L : List As}
/-! the document's disk: the same plain disk in another shape -/
theorem find_hit : ∀ {l : List Fl} {j : Nat} {x : Fl} (nm : Bs), Srt l → l[j]? = some x → x.name = nm → findF nm l 0 = (j, true)
  | [], j, x, nm, _, h, _ => by simp at h
  | y :: r, 0, x, nm, hs, h, e => by
    have : y = x := by simpa using h
    subst this
    rw [find_cons, e, bl_irr]; simp
  | y :: r, j + 1, x, nm, hs, h, e => by
    have hx : r[j]? = some x := by simpa using h
    have hl := hs.cons.1 x (List.mem_of_getElem? hx)
    rw [e] at hl
    rw [find_cons, if_pos hl, find_hit nm hs.cons.2 hx e]
theorem find_miss {l : List Fl} {nm : Bs} (h : ∀ x ∈ l, x.name ≠ nm) : (findF nm l 0).2 = false := by
  rw [found_look]
  cases e : lookF nm l with
  | none => rfl
  | some x => exact absurd (look_name e).2 (h x (look_name e).1)
/-- how many changes are done yet -/
def lfI (D : Dk) : Int := if D.armed then (D.left : Nat) else -1
def rkC (fv : Value) (D : Dk) : List Value := [fv, .int .i64 (D.quota : Nat), .int .i64 (lfI D), .bool D.off]
abbrev rcA (rb : Nat) (fv : Value) (D : Dk) : As := cellA rb (.cells (rkC fv D).toArray T_ref8_Disk (0, 0))
abbrev rrA (fv : Value) (rs : List Row) : As := ownA T_ref8_File 3 fv rs.length (rs.flatMap rowE)
def rkA (rb : Nat) (fv : Value) (rs : List Row) (D : Dk) : As := starA (rcA rb fv D) (starA (rrA fv rs) (bsA rs D.fl))
section
variable {rb : Nat} {fv : Value} {rs : List Row} {D : Dk}
theorem Hq.ropen (H : Hq m0 m S (rkA rb fv rs D :: L)) : Hq m0 m S (rcA rb fv D :: rrA fv rs :: bsA rs D.fl :: L) :=
  (Hq.split ((Hq.split H).perm (List.Perm.swap ..))).perm (((List.Perm.swap ..).trans (List.Perm.cons _ (List.Perm.swap ..))))
theorem Hq.rclose (H : Hq m0 m S (rcA rb fv D :: rrA fv rs :: bsA rs D.fl :: L)) : Hq m0 m S (rkA rb fv rs D :: L) :=
  Hq.join ((Hq.join (H.perm (((List.Perm.swap ..).trans (List.Perm.cons _ (List.Perm.swap ..))).symm))).perm (List.Perm.swap ..))
theorem rk_open (h : (rkA rb fv rs D).p m) : Hq m m (rkA rb fv rs D).wp [rcA rb fv D, rrA fv rs, bsA rs D.fl] := (Hq.one h).ropen
theorem rk_cell (h : (rkA rb fv rs D).p m) : m rb = some (.cells (rkC fv D).toArray T_ref8_Disk (0, 0)) := (rk_open h).cs.1
theorem rk_row (h : (rkA rb fv rs D).p m) : F2 (RowOf m) rs D.fl := (rk_open h).at 2 rfl
theorem rk_len (h : (rkA rb fv rs D).p m) : rs.length = D.fl.length := F2_len (rk_row h)
theorem rk_rds (h : (rkA rb fv rs D).p m) : RdS 3 rowE m fv rs := Own.rds (by decide) rowE_len ((rk_open h).at 1 rfl)
instance {G : List (Nat × Obj)} [I : CellF L G] : CellF (rkA rb fv rs D :: L) ((rb, .cells (rkC fv D).toArray T_ref8_Disk (0, 0)) :: G) := ⟨fun m h => ⟨rk_cell h.1, I.h m h.2⟩⟩
set_option maxHeartbeats 4000000 in
theorem rat_s (h : (rkA rb fv rs D).p m) (nm : Bs) (hs : Srt D.fl) (hn : D.fl.length ≤ 1000000) : MC Tryz.prog n_ref8_Disk_at [lpD rb, .string (zb nm)] m fun u M => u = .int .i64 (if (findF nm D.fl 0).2 then ((findF nm D.fl 0).1 : Nat) else -1) ∧ Fr m M [] := by
  refine ref8_Disk_at_go (by simp [Tryz.f33]) ?_
  have hb := rk_cell h
  have hl := rk_len h
  have hr := rk_rds h
  have hF := rk_row h
  obtain ⟨a, c, rfl⟩ := hr.form
  simp (disch := omega) only [go_sem, undef]
  refine loopQ_intro (fun k E m' => ∃ j, j ≤ rs.length ∧ k = rs.length - j ∧ E = [(0, lpD rb), (1, .string (zb nm)), (5, .int .i64 (j : Nat))] ∧ (∀ i x, i < j → D.fl[i]? = some x → x.name ≠ nm) ∧ m' = m) rs.length rfl ⟨0, by omega, by omega, rfl, by intro i x hi; omega, rfl⟩ ?_
  rintro k E M1 ⟨j, hj, rfl, rfl, hne, rfl⟩
  simp (disch := omega) only [go_sem, undef, hb, rkC]
  refine condB_dec (fun hlt => ?_) (fun hlt => ?_)
  · have hlt : j < rs.length := by omega
    refine F2_at hF hlt fun r y hr1 hy hR => ?_
    refine RdS.elK hr hlt (by decide) fun bx o r' hr' hix hE => ?_
    rw [hr1] at hr'
    cases hr'
    have hc0 : cellAt (M1 bx) o = some (.string (zb y.name)) := by have := hE.cell 0 _ rfl; rw [hR.1] at this; exact this
    by_cases e : y.name = nm
    · simp (disch := omega) only [go_sem, undef, hb, rkC, hix, hc0, rd_str_eql, dec_t (show zb y.name = zb nm by rw [e])]
      rw [find_hit nm hs hy e]
      exact ⟨rfl, Fr.refl _ _⟩
    · simp (disch := omega) only [go_sem, undef, hb, rkC, hix, hc0, rd_str_eql, dec_f (show ¬ zb y.name = zb nm by rw [zb_inj]; exact e)]
      exact handN_intro (rs.length - (j + 1)) (by omega) ⟨j + 1, by omega, rfl, rfl, fun i x hi hx => by
        rcases Nat.lt_or_eq_of_le (Nat.le_of_lt_succ hi) with h1 | h1
        · exact hne i x h1 hx
        · subst h1; rw [hy] at hx; cases hx; exact e, rfl⟩
  · have e : j = rs.length := by omega
    subst e
    simp (disch := omega) only [go_sem, undef]
    rw [find_miss fun x hx => by
      obtain ⟨i, hi⟩ := List.getElem?_of_mem hx
      have := (List.getElem?_eq_some_iff.1 hi).1
      exact hne i x (by omega) hi]
    exact ⟨rfl, Fr.refl _ _⟩
end
end Go.Fw
namespace Go.Fw
open Go.Proofs
variable {m m0 M : Mem} {S : List Nat} {L : List As}
variable {rb : Nat} {fv : Value} {rs : List Row} {D : Dk}
theorem Hq.rkd {l : List Value} (D' : Dk) (H : Hq m0 m S (cellA rb (.cells l.toArray T_ref8_Disk (0, 0)) :: rrA fv rs :: bsA rs D.fl :: L)) (e : l = rkC fv D') (hf : D'.fl = D.fl) : Hq m0 m S (rkA rb fv rs D' :: L) := by
  subst e
  rw [← hf] at H
  exact H.rclose
theorem rk_fw : (rkA rb fv rs D).fp = (rkA rb fv rs D).wp := by simp [rkA, starA, bsA]
def RkR (rb : Nat) (D' : Dk) (V u : Value) (A : As) : Prop := u = V ∧ ∃ fv rs, A = rkA rb fv rs D'
theorem rm_done {fv' : Value} {rs' : List Row} {D' : Dk} {V : Value} (H : Hq m M (rkA rb fv rs D).wp [rkA rb fv' rs' D']) :
    ∃ A', RkR rb D' V V A' ∧ A'.p M ∧ Fr m M (rkA rb fv rs D).wp ∧ (∀ b ∈ A'.fp, b ∈ (rkA rb fv rs D).fp ∨ m b = none) ∧ ∀ b ∈ A'.wp, b ∈ (rkA rb fv rs D).wp ∨ m b = none :=
  ⟨_, ⟨rfl, _, _, rfl⟩, H.hs.1, H.fr, fun b hb => by rw [rk_fw]; rw [rk_fw] at hb; exact H.done.2.2 b hb, H.done.2.2⟩
set_option maxHeartbeats 4000000 in
theorem rpower_s (h : (rkA rb fv rs D).p m) (hl : D.left ≤ 9223372036854775807) : MC Tryz.prog n_ref8_Disk_power [lpD rb] m fun u M => (u = .bool (decide ((powF D).2 = 0)) ∧ (rkA rb fv rs (powF D).1).p M) ∧ Fr m M (rkA rb fv rs D).wp := by
  obtain ⟨q, fl, off, armed, left⟩ := D
  refine ref8_Disk_power_go (by simp [Tryz.f33]) ?_
  have H := Hq.one h
  have hb := rk_cell h
  cases armed with
  | false =>
    have e : lfI ⟨q, fl, off, false, left⟩ = -1 := rfl
    simp (disch := omega) only [go_sem, undef, hb, rkC, e]
    exact ⟨⟨rfl, h⟩, Fr.refl _ _⟩
  | true =>
    have hl : left ≤ 9223372036854775807 := hl
    have e : lfI ⟨q, fl, off, true, left⟩ = (left : Nat) := rfl
    by_cases h0 : left = 0
    · subst h0
      simp (disch := omega) only [go_sem, undef, hb, rkC, e]
      refine wrQ0 H.ropen fun M f H => ?_
      have H := Hq.rkd (l := rkC fv ⟨q, fl, true, true, 0⟩) (D := ⟨q, fl, off, true, 0⟩) ⟨q, fl, true, true, 0⟩ H rfl rfl
      simp (disch := omega) only [go_sem, undef]
      exact ⟨⟨rfl, H.hs.1⟩, H.fr⟩
    · simp (disch := omega) only [go_sem, undef, hb, rkC, e, dec_f (show ¬ ((left : Nat) : Int) = 0 by omega), dec_t (show ((left : Nat) : Int) > 0 by omega)]
      refine wrQ0 H.ropen fun M f H => ?_
      have e1 : (left : Int) - 1 = ((left - 1 : Nat) : Int) := by omega
      rw [e1] at H
      have H := Hq.rkd (l := rkC fv ⟨q, fl, off, true, left - 1⟩) (D := ⟨q, fl, off, true, left⟩) ⟨q, fl, off, true, left - 1⟩ H rfl rfl
      simp (disch := omega) only [go_sem, undef]
      have e : powF ⟨q, fl, off, true, left⟩ = (⟨q, fl, off, true, left - 1⟩, 0) := by simp [powF, h0]
      rw [e]
      exact ⟨⟨rfl, H.hs.1⟩, H.fr⟩
set_option maxHeartbeats 4000000 in
theorem rtotal_s (h : (rkA rb fv rs D).p m) (hn : D.fl.length ≤ 1000000) (hT : tot D.fl ≤ 1000000000) : MC Tryz.prog n_ref8_Disk_Total [lpD rb] m fun u M => u = .int .i64 (tot D.fl : Nat) ∧ Fr m M [] := by
  refine ref8_Disk_Total_go (by simp [Tryz.f33]) ?_
  have hb := rk_cell h
  have hl := rk_len h
  have hr := rk_rds h
  have hF := rk_row h
  obtain ⟨a, c, rfl⟩ := hr.form
  simp (disch := omega) only [go_sem, undef]
  refine loopQ_intro (fun k E m' => ∃ j, j ≤ rs.length ∧ k = rs.length - j ∧ E = [(0, lpD rb), (3, .int .i64 (tot (D.fl.take j) : Nat)), (4, .int .i64 (j : Nat))] ∧ m' = m) rs.length rfl ⟨0, by omega, by omega, rfl, rfl⟩ ?_
  rintro k E M1 ⟨j, hj, rfl, rfl, rfl⟩
  have ht0 := tot_le D.fl j
  have ht1 := tot_le D.fl (j + 1)
  simp (disch := omega) only [go_sem, undef, hb, rkC]
  refine condB_dec (fun hlt => ?_) (fun hlt => ?_)
  · have hlt : j < rs.length := by omega
    refine F2_at hF hlt fun r y hr1 hy hR => ?_
    refine RdS.elK hr hlt (by decide) fun bx o r' hr' hix hE => ?_
    rw [hr1] at hr'
    cases hr'
    refine Exists.elim hR.2.2.1.form fun a3 hh => Exists.elim hh fun c3 ev => ?_
    have hsn := tot_take D.fl j y hy
    have hc1 : cellAt (M1 bx) (o + 1) = some r.2.1 := hE.cell 1 _ rfl
    rw [ev] at hc1
    simp (disch := omega) only [go_sem, undef, hb, rkC, hix, hc1]
    exact handN_intro (rs.length - (j + 1)) (by omega) ⟨j + 1, by omega, rfl, by rw [hsn]; rfl, rfl⟩
  · have e : j = rs.length := by omega
    subst e
    simp (disch := omega) only [go_sem, undef]
    rw [hl, List.take_length]
    exact ⟨rfl, Fr.refl _ _⟩
set_option maxHeartbeats 4000000 in
theorem rread_s (h : (rkA rb fv rs D).p m) (nm : Bs) (hs : Srt D.fl) (hn : D.fl.length ≤ 1000000) : MC Tryz.prog n_ref8_Disk_Read [lpD rb, .string (zb nm)] m fun u M => (∃ w, u = .tuple #[w, .bool (lookF nm D.fl).isSome] ∧ RdB M w (rdB (lookF nm D.fl))) ∧ Fr m M [] := by
  have hf := rat_s h nm hs hn
  have ho := findF_ok nm D.fl 0
  unfold lookF
  generalize findF nm D.fl 0 = r at *
  obtain ⟨i, ok⟩ := r
  have H := Hq.refl m []
  cases ok with
  | false =>
    refine ref8_Disk_Read_go (by simp [Tryz.f33]) ?_
    simp (disch := omega) only [go_sem, undef]
    refine callQ H hf fun M f H => ?_
    simp (disch := omega) only [go_sem, undef]
    exact ⟨⟨_, rfl, bytes_nil⟩, f⟩
  | true =>
    obtain ⟨_, y, hy, _⟩ := ho rfl
    rw [Nat.sub_zero] at hy
    have hy : D.fl[i]? = some y := hy
    have hi := (List.getElem?_eq_some_iff.1 hy).1
    have e1 : (if ((i, true) : Nat × Bool).2 = true then D.fl[((i, true) : Nat × Bool).1]? else none) = some y := by rw [if_pos rfl]; exact hy
    rw [e1]
    have hb := rk_cell h
    have hl := rk_len h
    have hr := rk_rds h
    refine F2_at (i := i) (rk_row h) (by omega) fun r y' hr1 hy' hR => ?_
    rw [hy] at hy'
    cases hy'
    obtain ⟨a, c, rfl⟩ := hr.form
    refine ref8_Disk_Read_go (by simp [Tryz.f33]) ?_
    simp (disch := omega) only [go_sem, undef]
    refine callQ H hf fun M f H => ?_
    have hb := f.get hb (by simp)
    refine RdS.elK (hr.frame f) (show i < rs.length by omega) (by decide) fun bx o r' hr' hix hE => ?_
    rw [hr1] at hr'
    cases hr'
    have hc1 : cellAt (M bx) (o + 1) = some r.2.1 := hE.cell 1 _ rfl
    simp (disch := omega) only [go_sem, undef, hb, rkC, hix, hc1]
    exact ⟨⟨_, rfl, hR.2.2.1.frame f⟩, f⟩
end Go.Fw
namespace Go.Fw
open Go.Proofs
variable {m m0 M : Mem} {S : List Nat} {L : List As}
variable {rb : Nat} {fv : Value} {rs : List Row} {D : Dk}
set_option maxHeartbeats 4000000 in
theorem rnames_s (h : (rkA rb fv rs D).p m) (hn : D.fl.length ≤ 1000000) : CN Tryz.prog n_ref8_Disk_Names [lpD rb] m fun u A => A = nsA u (D.fl.map Fl.name) := by
  refine ref8_Disk_Names_go (by simp [Tryz.f33]) ?_
  have H := (Hq.refl m []).nilRow 9 1
  have hb := rk_cell h
  have hl := rk_len h
  have hr := rk_rds h
  have hF := rk_row h
  obtain ⟨a, c, rfl⟩ := hr.form
  simp (disch := omega) only [go_sem, undef]
  refine loopQ_intro (fun k E m' => ∃ j w, j ≤ rs.length ∧ k = rs.length - j ∧ E = [(0, lpD rb), (3, w), (4, .int .i64 (j : Nat))] ∧ Hq m m' [] [nsA w ((D.fl.take j).map Fl.name)]) rs.length rfl ⟨0, _, by omega, by omega, rfl, H⟩ ?_
  rintro k E M1 ⟨j, w, hj, rfl, rfl, H⟩
  have hb := H.fr.get hb (by simp)
  simp (disch := omega) only [go_sem, undef, hb, rkC]
  refine condB_dec (fun hlt => ?_) (fun hlt => ?_)
  · have hlt : j < rs.length := by omega
    refine F2_at hF hlt fun r y hr1 hy hR => ?_
    refine RdS.elK (hr.frame H.fr) hlt (by decide) fun bx o r' hr' hix hE => ?_
    rw [hr1] at hr'
    cases hr'
    have hlen : ((D.fl.take j).map Fl.name).length = j := by simp; omega
    have hc0 : cellAt (M1 bx) o = some (.string (zb y.name)) := by have := hE.cell 0 _ rfl; rw [hR.1] at this; exact this
    simp (disch := omega) only [go_sem, undef, hb, rkC, hix, hc0]
    refine newQ H fun b2 M f1 H => ?_
    simp (disch := omega) only [go_sem, undef]
    refine appQ1 H (k := 1) rfl (ldS_cell (l := [_]) H.cs.1 (by simp)) rfl (by simp [Value.oneCell']) rfl (by omega) (by omega) fun w3 M f H => ?_
    have H := H.tail
    have H : Hq m M [] [nsA w3 ((D.fl.take (j + 1)).map Fl.name)] := by
      have e : (D.fl.take (j + 1)).map Fl.name = (D.fl.take j).map Fl.name ++ [y.name] := by rw [List.take_add_one, hy]; simp
      rw [e, nsA, List.length_append, List.flatMap_append]
      exact H
    simp (disch := omega) only [go_sem, undef]
    exact handN_intro (rs.length - (j + 1)) (by omega) ⟨j + 1, w3, by omega, rfl, rfl, H⟩
  · have e : j = rs.length := by omega
    subst e
    rw [hl, List.take_length] at H
    simp (disch := omega) only [go_sem, undef]
    exact ⟨_, rfl, H.hs.1, H.fr, fun b hb => (H.done.2.2 b hb).resolve_left (by simp)⟩
/-- a cell of a file is written over -/
theorem rputFile {b n cap i c : Nat} {x : Value} {r r' : Row} {J : Mem → Prop} {l : Lk J} {l' : Lk m} {l'' : Lk fun y => wrO m b y J l l'} (H : Hq m0 m S (rrA (.slice (some ⟨b, 0, none⟩) n cap) rs :: L)) (hi : rs[i]? = some r) (hc : c < 3) (hq : (rowE r).set c x = rowE r')
    (K : ∀ M, Fr m M [b] → Hq m0 M S (rrA (.slice (some ⟨b, 0, none⟩) n cap) (rs.set i r') :: L) → J M) : bObj (putAt (m b) (i * 3 + c) x) (fun y => wrO m b y J l l') l'' := by
  have hil := (List.getElem?_eq_some_iff.1 hi).1
  refine Own.rowK (H.at 0 rfl) (by omega) fun b' cap' tail e hb hl => ?_
  have en : n = rs.length := by injection e
  have eb : b = b' := by injection e with e1; injection e1 with e1; injection e1
  have ec : cap = cap' := by injection e
  subst eb ec
  have H2 := Hq.toCell (n := n) (size := 3) (t := T_ref8_File) (xs := rs.flatMap rowE) (by subst en; exact H) hb
  have hfl : (rs.flatMap rowE).length = rs.length * 3 := fm_len rowE_len _
  rw [hb, putAt_cells _ _ _ _ (by rw [List.size_toArray, List.length_append, hfl]; omega), bObj_some]
  refine wrQ0 H2 fun M f H3 => ?_
  rw [List.setIfInBounds_toArray, row_set hi tail x r' c hc hq] at H3
  have hfl2 : ((rs.set i r').flatMap rowE).length = rs.length * 3 := by rw [fm_len rowE_len, List.length_set]
  refine K M f ?_
  have := Hq.ofCell (size := 3) (n := n) (cap := cap) H3 (by rw [hfl2, en]) (by rw [← hl, List.length_append, List.length_append, hfl, hfl2])
  rw [rrA, List.length_set, ← en]
  exact this
end Go.Fw
namespace Go.Fw
open Go.Proofs
variable {m m0 M : Mem} {S : List Nat} {L : List As}
variable {rb : Nat} {fv : Value} {rs : List Row} {D : Dk}
set_option maxHeartbeats 8000000 in
theorem rsync_s (h : (rkA rb fv rs D).p m) (nm : Bs) (hs : Srt D.fl) (hn : D.fl.length ≤ 1000000) (hl : D.left ≤ 9223372036854775807) (hT : tot D.fl ≤ 1000000000) : CM Tryz.prog n_ref8_Disk_Sync [lpD rb, .string (zb nm)] m (rkA rb fv rs D) (RkR rb (syncF nm D).1 (.int .i64 ((syncF nm D).2 : Nat))) := by
  have H := Hq.one h
  have hat := rat_s h nm hs hn
  have hps := fun M (h : (rkA rb fv rs D).p M) => rpower_s h hl
  have hpf := powF_fl D
  have hp10 := (powF_le D).2.2
  have hfo := findF_ok nm D.fl 0
  refine ref8_Disk_Sync_go (by simp [Tryz.f33]) ?_
  simp (disch := omega) only [go_sem, undef]
  refine callQ H hat fun M f H => ?_
  have hb := rk_cell (H.at 0 rfl)
  cases ho : D.off with
  | true =>
    have e : syncF nm D = (D, 10) := by simp [syncF, knownF, ho]
    rw [e]
    simp (disch := omega) only [go_sem, undef, hb, rkC, ho]
    exact rm_done H
  | false =>
    cases hf : (findF nm D.fl 0).2 with
    | false =>
      have e : syncF nm D = (D, 8) := by simp [syncF, knownF, ho, hf]
      rw [e]
      simp (disch := omega) only [go_sem, undef, hb, rkC, ho, hf]
      exact rm_done H
    | true =>
      have es : syncF nm D = if (powF D).2 ≠ 0 then powF D else ({ (powF D).1 with fl := D.fl.modify (findF nm D.fl 0).1 keptF }, 0) := by simp [syncF, knownF, ho, hf]
      rw [es]
      obtain ⟨_, y, hy, hyn⟩ := hfo hf
      rw [Nat.sub_zero] at hy
      generalize (findF nm D.fl 0).1 = i at *
      generalize powF D = pd at *
      obtain ⟨D1, e1⟩ := pd
      simp only at hpf hp10 hps
      have hi := (List.getElem?_eq_some_iff.1 hy).1
      simp (disch := omega) only [go_sem, undef, hb, rkC, ho, hf, dec_f (show ¬ ((i : Nat) : Int) < 0 by omega)]
      refine callS0 (rkA rb fv rs D1) H (hps _ (H.at 0 rfl)) (by simp [rkA, starA, bsA]) (by simp [rkA, starA, bsA]) fun M f H => ?_
      by_cases he1 : e1 = 0
      · subst he1
        rw [if_neg (by simp)]
        have hyl : y.b.length ≤ 1000000000 := by
          have h1 := tot_take D.fl i y hy
          have h2 := tot_le D.fl (i + 1)
          omega
        have hp := H.at 0 rfl
        have hb := rk_cell hp
        have hlen := rk_len hp
        rw [hpf] at hlen
        refine F2_at (i := i) (rk_row hp) (by omega) fun r y' hr1 hy' hR => ?_
        rw [hpf, hy] at hy'
        cases hy'
        refine Own.rowK ((H.ropen).at 1 rfl) (by omega) fun b cap tail efv hbb hll => ?_
        subst efv
        have hE := RdS.elO (rk_rds hp) rfl hr1 (by decide)
        have hc := hE.cell 1 _ rfl
        refine Exists.elim hR.2.2.1.form fun a3 hh => Exists.elim hh fun c3 ev => ?_
        rw [ev] at hc
        have hil : i < rs.length := by omega
        simp (disch := omega) only [go_sem, undef, hb, rkC, rd_ixs, hc]
        refine rputFile (r' := (r.1, r.2.1, y.b.length)) H.ropen.rot3 hr1 (by decide) rfl fun M f H => ?_
        have H := bs_set (f := y) (f' := keptF y) (r' := (r.1, r.2.1, y.b.length)) H.rot3' hr1 (by rw [hpf]; exact hy) rfl fun hR => ⟨hR.1, rfl, hR.2.2.1, hR.2.2.2⟩
        have e2 : D1.fl.set i (keptF y) = D.fl.modify i keptF := by
          rw [hpf, modify_set hy]
        have H : Hq m M (rkA rb (.slice (some ⟨b, 0, none⟩) rs.length cap) rs D).wp [bsA (rs.set i (r.1, r.2.1, y.b.length)) (D.fl.modify i keptF), rrA (.slice (some ⟨b, 0, none⟩) rs.length cap) (rs.set i (r.1, r.2.1, y.b.length)), rcA rb (.slice (some ⟨b, 0, none⟩) rs.length cap) { D1 with fl := D.fl.modify i keptF }] := by
          rw [← e2]; exact H
        have H := Hq.rclose (D := { D1 with fl := D.fl.modify i keptF }) H.rot3.rot3'
        simp (disch := omega) only [go_sem, undef]
        exact rm_done H
      · rw [if_pos he1]
        have : e1 = 10 := by omega
        subst this
        simp (disch := omega) only [go_sem, undef]
        exact rm_done H
end Go.Fw
namespace Go.Fw
open Go.Proofs
variable {m m0 M : Mem} {S : List Nat} {L : List As}
variable {rb : Nat} {fv : Value} {rs : List Row} {D : Dk}
theorem RdS.cutV {α : Type} {k : Nat} {enc : α → List Value} {a : Option Addr} {c : Nat} {l : List α} (k0 : 0 < k) (h : RdS k enc m (.slice a l.length c) l) (lo hi : Nat) (h1 : lo ≤ hi) (h2 : hi ≤ l.length) {v : Value} (hc : cutS k a c lo hi = some v) : RdS k enc m v ((l.take hi).drop lo) := by
  obtain ⟨a', c', e, hr, _⟩ := h.cut k0 lo hi h1 h2
  rw [hc] at e
  cases e
  exact hr
set_option maxHeartbeats 8000000 in
theorem rout_s (h : (rkA rb fv rs D).p m) (k : Nat) (hk : k < D.fl.length) (hn : D.fl.length ≤ 100000) : CM Tryz.prog n_ref8_Disk_out [lpD rb, .int .i64 (k : Nat)] m (rkA rb fv rs D) (RkR rb { D with fl := D.fl.eraseIdx k } (.tuple #[])) := by
  have H := (Hq.one h).ropen
  have hlen := rk_len h
  have hr := rk_rds h
  have hone := rows_one (rk_row h)
  obtain ⟨a, c, rfl⟩ := hr.form
  have hb := rk_cell h
  have nc0 : ((0 : Nat) : Int) = 0 := rfl
  obtain ⟨a1, c1, hc1, hr1, _⟩ := hr.cut (by decide) 0 k (by omega) (by omega)
  obtain ⟨a2, c2, hc2, hr2, _⟩ := hr.cut (by decide) (k + 1) rs.length (by omega) (Nat.le_refl _)
  rw [Nat.sub_zero] at hc1 hr1
  rw [nc0] at hc1
  rw [List.drop_zero] at hr1
  rw [List.take_length] at hr2
  have t1 : (rs.take k).length = k := by rw [List.length_take]; omega
  have t2 : (rs.drop (k + 1)).length = rs.length - (k + 1) := List.length_drop ..
  have ek : ((k : Nat) : Int) + 1 = ((k + 1 : Nat) : Int) := by omega
  refine ref8_Disk_out_go (by simp [Tryz.f33]) ?_
  simp (disch := omega) only [go_sem, undef, hb, rkC, rd_slc01, rd_slc10, ek, hc1, hc2]
  refine newQ H fun b M f H => ?_
  have hb := H.cs.2.1
  simp (disch := omega) only [go_sem, undef, hb, rkC, rd_slc01, rd_slc10, ek, hc1, hc2]
  have H := H.toRow (l := []) 3 0 0 rfl (by omega)
  simp only [Nat.zero_mul, List.take_zero] at H
  refine appQ0 H (k := k) rfl (by have := ldS_of (l := rs.take k) (c := c1) (by rw [t1]; exact hr1.frame f); rwa [t1] at this) (by rw [fm_len rowE_len, t1]) (fun v hv => hone v (by
    obtain ⟨r, h1, h2⟩ := List.mem_flatMap.1 hv
    exact List.mem_flatMap.2 ⟨r, List.mem_of_mem_take h1, h2⟩)) rfl (by omega) (by omega) fun w M f1 H => ?_
  have hb := H.cs.1
  simp (disch := omega) only [go_sem, undef, hb, rkC]
  have hr2' : RdS 3 rowE M (.slice a2 (rs.length - (k + 1)) c2) (rs.drop (k + 1)) := by
    have := RdS.cutV (by decide) (Own.rds (k := 3) (enc := rowE) (by decide) rowE_len (H.at 2 rfl)) (k + 1) rs.length (by omega) (Nat.le_refl _) hc2
    rwa [List.take_length] at this
  refine appQ0 H (k := rs.length - (k + 1)) rfl (by have := ldS_of (l := rs.drop (k + 1)) (c := c2) (by rw [t2]; exact hr2'); rwa [t2] at this) (by rw [fm_len rowE_len, t2]) (fun v hv => hone v (by
    obtain ⟨r, h1, h2⟩ := List.mem_flatMap.1 hv
    exact List.mem_flatMap.2 ⟨r, List.mem_of_mem_drop h1, h2⟩)) rfl (by omega) (by omega) fun w2 M f2 H => ?_
  have hee : ownA T_ref8_File 3 w2 (0 + k + (rs.length - (k + 1))) ([] ++ (rs.take k).flatMap rowE ++ (rs.drop (k + 1)).flatMap rowE) = rrA w2 (rs.eraseIdx k) := by
    rw [rrA, List.eraseIdx_eq_take_drop_succ, List.flatMap_append, List.length_append, t1, t2]; simp
  rw [hee] at H
  refine Own.formK (H.at 0 rfl) fun a5 c5 e5 => ?_
  subst e5
  have hb := H.cs.1
  simp (disch := omega) only [go_sem, undef, hb, rkC]
  refine wrQ0 H.rot3 fun M f3 H => ?_
  have H := H.rot3'.tail
  have H := bs_erase (i := k) H.rot3'
  have H := Hq.rkd (l := rkC (.slice a5 (rs.eraseIdx k).length c5) D) (D := { D with fl := D.fl.eraseIdx k }) { D with fl := D.fl.eraseIdx k } H.rot3'.rot3' rfl rfl
  simp (disch := omega) only [go_sem, undef]
  exact rm_done H
end Go.Fw
namespace Go.Fw
open Go.Proofs
variable {m m0 M : Mem} {S : List Nat} {L : List As}
variable {rb : Nat} {fv : Value} {rs : List Row} {D : Dk}
set_option maxHeartbeats 8000000 in
theorem rremove_s (h : (rkA rb fv rs D).p m) (nm : Bs) (hs : Srt D.fl) (hn : D.fl.length ≤ 100000) (hl : D.left ≤ 9223372036854775807) : CM Tryz.prog n_ref8_Disk_Remove [lpD rb, .string (zb nm)] m (rkA rb fv rs D) (RkR rb (rmF nm D).1 (.int .i64 ((rmF nm D).2 : Nat))) := by
  have H := Hq.one h
  have hat := rat_s h nm hs (by omega)
  have hps := fun M (h : (rkA rb fv rs D).p M) => rpower_s h hl
  have hpf := powF_fl D
  have hp10 := (powF_le D).2.2
  have hfo := findF_ok nm D.fl 0
  refine ref8_Disk_Remove_go (by simp [Tryz.f33]) ?_
  simp (disch := omega) only [go_sem, undef]
  refine callQ H hat fun M f H => ?_
  have hb := rk_cell (H.at 0 rfl)
  cases ho : D.off with
  | true =>
    have e : rmF nm D = (D, 10) := by simp [rmF, knownF, ho]
    rw [e]
    simp (disch := omega) only [go_sem, undef, hb, rkC, ho]
    exact rm_done H
  | false =>
    cases hf : (findF nm D.fl 0).2 with
    | false =>
      have e : rmF nm D = (D, 8) := by simp [rmF, knownF, ho, hf]
      rw [e]
      simp (disch := omega) only [go_sem, undef, hb, rkC, ho, hf]
      exact rm_done H
    | true =>
      have es : rmF nm D = if (powF D).2 ≠ 0 then powF D else ({ (powF D).1 with fl := D.fl.eraseIdx (findF nm D.fl 0).1 }, 0) := by simp [rmF, knownF, ho, hf]
      rw [es]
      obtain ⟨_, y, hy, hyn⟩ := hfo hf
      rw [Nat.sub_zero] at hy
      generalize (findF nm D.fl 0).1 = i at *
      generalize powF D = pd at *
      obtain ⟨D1, e1⟩ := pd
      simp only at hpf hp10 hps
      have hi := (List.getElem?_eq_some_iff.1 hy).1
      simp (disch := omega) only [go_sem, undef, hb, rkC, ho, hf, dec_f (show ¬ ((i : Nat) : Int) < 0 by omega)]
      refine callS0 (rkA rb fv rs D1) H (hps _ (H.at 0 rfl)) (by simp [rkA, starA, bsA]) (by simp [rkA, starA, bsA]) fun M f H => ?_
      by_cases he1 : e1 = 0
      · subst he1
        rw [if_neg (by simp)]
        simp (disch := omega) only [go_sem, undef]
        refine callA0 H (rout_s (H.at 0 rfl) i (by rw [hpf]; omega) (by rw [hpf]; omega)) fun u M A' hR f H => ?_
        refine Exists.elim hR.2 fun fv1 hh => Exists.elim hh fun rs1 eA => ?_
        have eu := hR.1
        subst eu eA
        clear hh hR
        rw [hpf] at H
        simp (disch := omega) only [go_sem, undef]
        exact rm_done H
      · rw [if_pos he1]
        have : e1 = 10 := by omega
        subst this
        simp (disch := omega) only [go_sem, undef]
        exact rm_done H
end Go.Fw
