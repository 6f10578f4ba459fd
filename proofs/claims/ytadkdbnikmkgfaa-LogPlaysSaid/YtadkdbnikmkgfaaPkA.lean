import Derived.Test.YtadkdbnikmkgfaaPkP
import Derived.Test.YtadkdbnikmkgfaaCd
set_option linter.unusedSimpArgs false
set_option linter.unusedVariables false
namespace Go.Fw
open Go.Proofs
/-- the block that a slice hangs on, if it has elements -/
def bk (v : Value) (b : List UInt8) : List Nat := if b = [] then [] else blkOf v
theorem bk_sub {v : Value} {b : List UInt8} : ∀ x ∈ bk v b, x ∈ blkOf v := fun x hx => by
  unfold bk at hx; split at hx
  · cases hx
  · exact hx
theorem RdB.there {m : Mem} {v : Value} {b : List UInt8} (h : RdB m v b) : ∀ x ∈ bk v b, m x ≠ none := fun x hx => by
  unfold bk at hx; split at hx
  · cases hx
  · rename_i hne
    obtain ⟨_, a, c, rfl, _, hr⟩ := h
    rcases hr with h0 | ⟨bb, o, rfl, hc⟩
    · have := bys_len b
      rw [bys, h0] at this
      exact absurd (List.eq_nil_of_length_eq_zero (by simpa using this.symm)) hne
    · simp only [blkOf, List.mem_singleton] at hx; subst hx
      have h1 : 0 < b.length := List.length_pos_iff.2 hne
      have h2 := hc 0 _ (List.getElem?_eq_getElem (by rw [fm_len bc_len]; omega))
      intro e; rw [e] at h2; cases h2
theorem RdB.stk {m m' : Mem} {v : Value} {b : List UInt8} (h : RdB m v b) (e : ∀ x ∈ bk v b, m' x = m x) : RdB m' v b := by
  by_cases hne : b = []
  · subst hne
    obtain ⟨hk, a, c, rfl, hc, _⟩ := h
    exact ⟨hk, a, c, rfl, hc, .inl rfl⟩
  · exact h.st fun x hx => e x (by unfold bk; rw [if_neg hne]; exact hx)
def rdrA (t rb : Nat) (a : Option Addr) (c : Nat) (b : List UInt8) (s : RS) : As where
  fp := rb :: bk (.slice a b.length c) b
  wp := [rb]
  sub _ h := by simp at h; simp [h]
  p m := m rb = some (.cells [Value.slice a b.length c, .int .i64 s.pos, .int .i64 s.wr].toArray t (0, 0)) ∧ RdB m (.slice a b.length c) b ∧ rb ∉ bk (.slice a b.length c) b ∧ (∀ x ∈ bk (.slice a b.length c) b, m x ≠ none) ∧ s.pos ≤ b.length ∧ b.length ≤ 1099511627776
  st h e := ⟨by rw [e _ (by simp)]; exact h.1, RdB.stk h.2.1 fun x hx => e x (List.mem_cons_of_mem _ hx), h.2.2.1, fun x hx => by rw [e x (List.mem_cons_of_mem _ hx)]; exact h.2.2.2.1 x hx, h.2.2.2.2⟩
  th h x hx := by
    rcases List.mem_cons.1 hx with rfl | hx
    · rw [h.1]; exact Option.some_ne_none _
    · exact h.2.2.2.1 x hx
instance {t rb : Nat} {a : Option Addr} {c : Nat} {b : List UInt8} {s : RS} {L : List As} {G : List (Nat × Obj)} [I : CellF L G] : CellF (rdrA t rb a c b s :: L) ((rb, .cells [Value.slice a b.length c, .int .i64 s.pos, .int .i64 s.wr].toArray t (0, 0)) :: G) := ⟨fun m h => ⟨h.1.1, I.h m h.2⟩⟩
instance {t rb : Nat} {a : Option Addr} {c : Nat} {b : List UInt8} {s s' : RS} : SameB (rdrA t rb a c b s') (rdrA t rb a c b s) := ⟨rfl, rfl⟩
variable {t rb : Nat} {a : Option Addr} {c : Nat} {b : List UInt8} {s : RS} {m m0 : Mem} {S : List Nat} {L : List As}
/-- -/
theorem wr_rdr {x : Obj} {J : Mem → Prop} {l : Lk J} {l' : Lk m} (H : Hq m0 m S (rdrA t rb a c b s :: L)) (s' : RS) (hx : x = .cells [Value.slice a b.length c, .int .i64 s'.pos, .int .i64 s'.wr].toArray t (0, 0)) (hp : s'.pos ≤ b.length)
    (k : ∀ M, Fr m M [rb] → Hq m0 M S (rdrA t rb a c b s' :: L) → J M) : wrO m rb x J l l' := by
  subst hx
  have h := H.at 0 rfl
  have f : Fr m (m.set rb (.cells [Value.slice a b.length c, .int .i64 s'.pos, .int .i64 s'.wr].toArray t (0, 0))) [rb] := Fr.set (by simp)
  refine k _ f (repQ0 (A' := rdrA t rb a c b s') H ⟨set_self _ _, ?_, h.2.2.1, ?_, hp, h.2.2.2.2.2⟩ f (fun b hb => .inl hb) (fun b hb => .inl hb))
  · exact RdB.stk h.2.1 fun x hx => f x (h.2.2.2.1 x hx) (by simp; rintro rfl; exact h.2.2.1 hx)
  · exact fun x hx => f.some (h.2.2.2.1 x hx) (by simp; rintro rfl; exact h.2.2.1 hx)
theorem wr_err0 {e : Int} {J : Mem → Prop} {l : Lk J} {l' : Lk m} (H : Hq m0 m S (rdrA t rb a c b s :: L)) (k : ∀ M, Fr m M [rb] → Hq m0 M S (rdrA t rb a c b ⟨s.pos, e⟩ :: L) → J M) :
    wrO m rb (.cells #[Value.slice a b.length c, .int .i64 s.pos, .int .i64 e] t (0, 0)) J l l' := wr_rdr (upQ0 H) ⟨s.pos, e⟩ rfl (H.at 0 rfl).2.2.2.2.1 fun M f H => k M f (downQ0 H)
theorem wr_err1 {X0 : As} {e : Int} {J : Mem → Prop} {l : Lk J} {l' : Lk m} (H : Hq m0 m S (X0 :: rdrA t rb a c b s :: L)) (k : ∀ M, Fr m M [rb] → Hq m0 M S (X0 :: rdrA t rb a c b ⟨s.pos, e⟩ :: L) → J M) :
    wrO m rb (.cells #[Value.slice a b.length c, .int .i64 s.pos, .int .i64 e] t (0, 0)) J l l' := wr_rdr (upQ1 H) ⟨s.pos, e⟩ rfl (H.at 1 rfl).2.2.2.2.1 fun M f H => k M f (downQ1 H)
theorem wr_err2 {X0 X1 : As} {e : Int} {J : Mem → Prop} {l : Lk J} {l' : Lk m} (H : Hq m0 m S (X0 :: X1 :: rdrA t rb a c b s :: L)) (k : ∀ M, Fr m M [rb] → Hq m0 M S (X0 :: X1 :: rdrA t rb a c b ⟨s.pos, e⟩ :: L) → J M) :
    wrO m rb (.cells #[Value.slice a b.length c, .int .i64 s.pos, .int .i64 e] t (0, 0)) J l l' := wr_rdr (upQ2 H) ⟨s.pos, e⟩ rfl (H.at 2 rfl).2.2.2.2.1 fun M f H => k M f (downQ2 H)
theorem wr_err3 {X0 X1 X2 : As} {e : Int} {J : Mem → Prop} {l : Lk J} {l' : Lk m} (H : Hq m0 m S (X0 :: X1 :: X2 :: rdrA t rb a c b s :: L)) (k : ∀ M, Fr m M [rb] → Hq m0 M S (X0 :: X1 :: X2 :: rdrA t rb a c b ⟨s.pos, e⟩ :: L) → J M) :
    wrO m rb (.cells #[Value.slice a b.length c, .int .i64 s.pos, .int .i64 e] t (0, 0)) J l l' := wr_rdr (upQ3 H) ⟨s.pos, e⟩ rfl (H.at 3 rfl).2.2.2.2.1 fun M f H => k M f (downQ3 H)
theorem wr_err4 {X0 X1 X2 X3 : As} {e : Int} {J : Mem → Prop} {l : Lk J} {l' : Lk m} (H : Hq m0 m S (X0 :: X1 :: X2 :: X3 :: rdrA t rb a c b s :: L)) (k : ∀ M, Fr m M [rb] → Hq m0 M S (X0 :: X1 :: X2 :: X3 :: rdrA t rb a c b ⟨s.pos, e⟩ :: L) → J M) :
    wrO m rb (.cells #[Value.slice a b.length c, .int .i64 s.pos, .int .i64 e] t (0, 0)) J l l' := wr_rdr (upQ4 H) ⟨s.pos, e⟩ rfl (H.at 4 rfl).2.2.2.2.1 fun M f H => k M f (downQ4 H)
abbrev lpp (rb : Nat) : Value := .pointer (some ⟨rb, 0, none⟩)
theorem bc_0 (x : UInt8) : (bc x)[0]? = some (bv x) := rfl
attribute [go_sem] bc_0
theorem word_Zag_s (u : Nat) (hu : u < 2 ^ 64) (m : Mem) : MC Try.prog n_word_Zag [.int .u64 (u : Int)] m fun v M => v = .int .i64 (zag u) ∧ Fr m M [] := by
  refine word_Zag_go (by simp [Try.f33]) ?_
  have h2 : u % 2 = 0 ∨ u % 2 = 1 := by omega
  have h3 : ((u / 2 ^ 1 : Nat) : Int) ≤ 9223372036854775807 := by omega
  have h4 : (0 : Int) ≤ ((u / 2 ^ 1 : Nat) : Int) := by omega
  rcases h2 with h2 | h2
  · simp (disch := omega) only [go_sem, undef, rd_u64_shr u 1 1 rfl (by omega), rd_u64_and1 u hu, h2, rd_i64_xor0, Int.natCast_zero, Int.sub_self]
    exact ⟨by simp [zag, h2], Fr.refl _ _⟩
  · simp (disch := omega) only [go_sem, undef, rd_u64_shr u 1 1 rfl (by omega), rd_u64_and1 u hu, h2, rd_i64_xor1, Int.natCast_one, show (0 : Int) - 1 = -1 from rfl]
    exact ⟨by simp [zag, h2], Fr.refl _ _⟩
theorem pack_fail_s (h : (rdrA t rb a c b s).p m) (from_ : Nat) (hf : from_ ≤ b.length) (e : Int) : MC Try.prog n_pack_Reader_fail [lpp rb, .int .i64 (from_ : Int), .int .i64 e] m fun v M => (v = .tuple #[] ∧ (rdrA t rb a c b ⟨from_, e⟩).p M) ∧ Fr m M [rb] := by
  refine pack_Reader_fail_go (by simp [Try.f33]) ?_
  have H := Hq.one h
  simp (disch := omega) only [go_sem, undef, H.cs]
  refine wr_rdr H ⟨from_, s.wr⟩ rfl hf fun M f H => ?_
  simp (disch := omega) only [go_sem, undef, H.cs]
  refine wr_rdr H ⟨from_, e⟩ rfl hf fun M f H => ?_
  simp (disch := omega) only [go_sem, undef]
  exact ⟨⟨rfl, H.hs.1⟩, H.fr⟩
theorem drop_cell {b : List UInt8} {k : Nat} {x : UInt8} (h : b[k]? = some x) : b.drop k = x :: b.drop (k + 1) := by
  obtain ⟨h1, rfl⟩ := List.getElem?_eq_some_iff.1 h
  exact List.drop_eq_getElem_cons h1
theorem u64_r (n : Nat) (h : n < 2 ^ 64) : IntKind.u64.wrap (n : Int) = n := u64_in _ (by omega)
theorem pack_Num_s (h : (rdrA t rb a c b s).p m) : MC Try.prog n_pack_Reader_Num [lpp rb] m fun v M => (v = .int .i64 (s.num b).1 ∧ (rdrA t rb a c b (s.num b).2).p M) ∧ Fr m M [rb] := by
  refine pack_Reader_Num_go (by simp [Try.f33]) ?_
  have H := Hq.one h
  simp (disch := omega) only [go_sem, undef, H.cs]
  refine condB_dec (fun h0 => ?_) (fun h0 => ?_)
  rotate_left
  · rw [RS.num_bad h0]
    simp (disch := omega) only [go_sem, undef]
    exact ⟨⟨rfl, H.hs.1⟩, H.fr⟩
  · have hnum : s.num b = numE s (numR (b.drop s.pos) 0 0) := by simp [RS.num, h0]
    rw [hnum]
    simp (disch := omega) only [go_sem, undef, H.cs]
    have hp := h.2.2.2.2.1
    have hB := h.2.2.2.2.2
    refine loopQ_intro (fun n E m' => ∃ i u, n = b.length - (s.pos + i) ∧ E = [(0, lpp rb), (3, .int .i64 (s.pos : Int)), (4, .int .u64 (u : Nat)), (5, .int .i64 (i : Nat))] ∧ i ≤ 9 ∧ s.pos + i ≤ b.length ∧ u < 2 ^ (7 * i) ∧ numR (b.drop s.pos) 0 0 = numR (b.drop (s.pos + i)) i u ∧
      Hq m m' [rb] [rdrA t rb a c b ⟨s.pos + i, 0⟩]) (b.length - s.pos) rfl ⟨0, 0, by omega, rfl, by omega, by omega, by decide, rfl, by rw [← h0]; exact H⟩ ?_
    clear H h
    rintro n E m' ⟨i, u, rfl, rfl, hi, hpi, hu, hr, H⟩
    simp (disch := omega) only [go_sem, undef, H.cs]
    refine condB_dec (fun h1 => ?_) (fun h1 => ?_)
    · simp (disch := omega) only [go_sem, undef]
      refine callS0 (rdrA t rb a c b ⟨s.pos, 3⟩) H (pack_fail_s (H.at 0 rfl) s.pos hp 3) rfl rfl fun M f H => ?_
      simp (disch := omega) only [go_sem, undef]
      have : b.drop (s.pos + i) = [] := List.drop_eq_nil_iff.2 (by omega)
      rw [hr, this]
      exact ⟨⟨rfl, H.hs.1⟩, H.fr⟩
    · have h2 : s.pos + i < b.length := by omega
      refine RdS.elK (H.at 0 rfl).2.1 h2 (by decide) fun b1 o1 x hx hix hE => ?_
      rw [drop_cell hx] at hr
      simp only [numR] at hr
      have hxl := x.toNat_lt
      have hpw : i = 9 → (2 : Nat) ^ (7 * i) = 9223372036854775808 := by rintro rfl; decide
      have hpw8 : i ≤ 8 → (2 : Nat) ^ (7 * i) ≤ 72057594037927936 := fun h => Nat.le_trans (Nat.pow_le_pow_right (by omega) (show 7 * i ≤ 56 by omega)) (by decide)
      have hps : (2 : Nat) ^ (7 * (i + 1)) = 128 * 2 ^ (7 * i) := by rw [show 7 * (i + 1) = 7 + 7 * i from by omega, Nat.pow_add]
      generalize hP : (2 : Nat) ^ (7 * i) = P at *
      have hmul : x.toNat % 128 * P ≤ 127 * P := Nat.mul_le_mul_right P (by omega)
      have hmul1 : x.toNat ≤ 1 → x.toNat % 128 * P ≤ 1 * P := fun h => Nat.mul_le_mul_right P (by omega)
      simp (disch := omega) only [go_sem, undef, H.cs, hix, hE.ld0]
      repeat' (first
        | ((with_reducible refine newQ H fun _ _ f H2 => ?_); clear f; clear H; have H := H2; clear H2; simp (disch := omega) only [go_sem, undef, H.cs, *])
        | ((with_reducible refine wrQ0 H fun _ f H2 => ?_); clear f; clear H; have H := H2; clear H2; simp (disch := omega) only [go_sem, undef, H.cs, *])
        | ((with_reducible refine wrQ1 H fun _ f H2 => ?_); clear f; clear H; have H := H2; clear H2; simp (disch := omega) only [go_sem, undef, H.cs, *])
        | ((with_reducible refine wrQ2 H fun _ f H2 => ?_); clear f; clear H; have H := H2; clear H2; simp (disch := omega) only [go_sem, undef, H.cs, *])
        | ((with_reducible refine wrQ3 H fun _ f H2 => ?_); clear f; clear H; have H := H2; clear H2; simp (disch := omega) only [go_sem, undef, H.cs, *])
        | ((with_reducible refine wrQ4 H fun _ f H2 => ?_); clear f; clear H; have H := H2; clear H2; simp (disch := omega) only [go_sem, undef, H.cs, *])
        | ((with_reducible refine wrQ5 H fun _ f H2 => ?_); clear f; clear H; have H := H2; clear H2; simp (disch := omega) only [go_sem, undef, H.cs, *])
        | ((with_reducible refine stwQ0 H ?hl ?h1 fun _ f H2 => ?_); (case hl => rfl); (case h1 => rfl); clear f; clear H; have H := H2; clear H2; simp (disch := omega) only [go_sem, undef, H.cs, *])
        | ((with_reducible refine stwQ1 H ?hl ?h1 fun _ f H2 => ?_); (case hl => rfl); (case h1 => rfl); clear f; clear H; have H := H2; clear H2; simp (disch := omega) only [go_sem, undef, H.cs, *])
        | ((with_reducible refine stwQ2 H ?hl ?h1 fun _ f H2 => ?_); (case hl => rfl); (case h1 => rfl); clear f; clear H; have H := H2; clear H2; simp (disch := omega) only [go_sem, undef, H.cs, *])
        | ((with_reducible refine stwQ3 H ?hl ?h1 fun _ f H2 => ?_); (case hl => rfl); (case h1 => rfl); clear f; clear H; have H := H2; clear H2; simp (disch := omega) only [go_sem, undef, H.cs, *])
        | ((with_reducible refine stwQ4 H ?hl ?h1 fun _ f H2 => ?_); (case hl => rfl); (case h1 => rfl); clear f; clear H; have H := H2; clear H2; simp (disch := omega) only [go_sem, undef, H.cs, *])
        | ((with_reducible refine stwQ5 H ?hl ?h1 fun _ f H2 => ?_); (case hl => rfl); (case h1 => rfl); clear f; clear H; have H := H2; clear H2; simp (disch := omega) only [go_sem, undef, H.cs, *])
        | ((with_reducible refine stQ0 H ?hl ?h1 fun _ f H2 => ?_); (case hl => exact Nat.le_of_ble_eq_true rfl); (case h1 => rfl); clear f; (simp only [go_sem] at H2); clear H; have H := H2; clear H2; simp (disch := omega) only [go_sem, undef, H.cs, *])
        | ((with_reducible refine stQ1 H ?hl ?h1 fun _ f H2 => ?_); (case hl => exact Nat.le_of_ble_eq_true rfl); (case h1 => rfl); clear f; (simp only [go_sem] at H2); clear H; have H := H2; clear H2; simp (disch := omega) only [go_sem, undef, H.cs, *])
        | ((with_reducible refine stQ2 H ?hl ?h1 fun _ f H2 => ?_); (case hl => exact Nat.le_of_ble_eq_true rfl); (case h1 => rfl); clear f; (simp only [go_sem] at H2); clear H; have H := H2; clear H2; simp (disch := omega) only [go_sem, undef, H.cs, *])
        | ((with_reducible refine stQ3 H ?hl ?h1 fun _ f H2 => ?_); (case hl => exact Nat.le_of_ble_eq_true rfl); (case h1 => rfl); clear f; (simp only [go_sem] at H2); clear H; have H := H2; clear H2; simp (disch := omega) only [go_sem, undef, H.cs, *])
        | ((with_reducible refine gQ_split (fun hq => ?_) (fun hq => ?_)) <;> (try simp only [Bool.not_true, Bool.not_false] at hq) <;> simp (disch := omega) only [go_sem, undef, H.cs, *])
        | ((with_reducible refine condB_split (fun hq => ?_) (fun hq => ?_)) <;> simp (disch := omega) only [go_sem, undef, H.cs, *]))
      all_goals (simp only [decide_eq_true_eq, decide_eq_false_iff_not] at *)
      all_goals first
        | (exfalso; omega)
        | (refine callS0 (rdrA t rb a c b ⟨s.pos, 4⟩) H (pack_fail_s (H.at 0 rfl) s.pos hp 4) rfl rfl fun M f H => ?_
           rw [hr, if_pos (by omega)]
           simp (disch := omega) only [go_sem, undef]
           exact ⟨⟨rfl, H.hs.1⟩, H.fr⟩)
        | (have hbad : ¬ ((0 < i ∧ x.toNat = 0) ∨ (i = 9 ∧ 1 < x.toNat)) := by omega
           rw [if_neg hbad] at hr
           refine wr_rdr H ⟨s.pos + i + 1, 0⟩ rfl (by simp only; omega) fun M f H => ?_
           by_cases h3 : x.toNat < 128
           · rw [if_pos (by omega)] at hr
             simp (disch := omega) only [go_sem, undef, H.cs, rd_u8_and x.toNat hxl, u64_in, rd_u64_shl' (x.toNat % 128) .u64 (7 * i) (7 * i) (by omega) (by omega) (by rw [hP]; omega), hP, rd_u64_or (7 * i) u (x.toNat % 128 * P) (by omega) (by rw [hP]; exact Nat.mul_mod_left _ _) (by omega)]
             refine callQ H (word_Zag_s _ (by omega) M) fun M f H => ?_
             simp (disch := omega) only [go_sem, undef]
             rw [hr]
             have e1 : x.toNat % 128 = x.toNat := by omega
             refine ⟨⟨by simp only [numE, e1], ?_⟩, H.fr⟩
             simp only [numE, h0]
             exact H.hs.1
           · rw [if_neg (by omega)] at hr
             first
               | (exfalso; omega)
               | (simp (disch := omega) only [go_sem, undef, H.cs, rd_u8_and x.toNat hxl, u64_in, rd_u64_shl' (x.toNat % 128) .u64 (7 * i) (7 * i) (by omega) (by omega) (by rw [hP]; omega), hP, rd_u64_or (7 * i) u (x.toNat % 128 * P) (by omega) (by rw [hP]; exact Nat.mul_mod_left _ _) (by omega)]
                  exact handN_intro (b.length - (s.pos + (i + 1))) (by omega) ⟨i + 1, u + x.toNat % 128 * P, rfl, rfl, by omega, by omega, by omega, hr, H⟩))
end Go.Fw
