import Derived.Test.YtbbiiodadoeflaaGreatDoorFxA
import Derived.Test.YtbbiiodadoeflaaGreatDoorCdC
import Derived.Test.YtbbiiodadoeflaaGreatDoorCd
set_option linter.unusedVariables false
set_option linter.unusedSimpArgs false
/-! The codec in plain words: numbers, texts, flags, commands, attributes, cells, records. -/
namespace Go.Fw
open Go
def zig (n : Int) : Nat := if n < 0 then (-2 * n - 1).toNat else (2 * n).toNat
def zag (u : Nat) : Int := if u % 2 = 1 then -((u / 2 : Nat) : Int) - 1 else ((u / 2 : Nat) : Int)
def numF : Nat → Nat → List UInt8
  | 0, _ => []
  | f + 1, u => if u < 128 then [UInt8.ofNat u] else UInt8.ofNat (u % 128 + 128) :: numF f (u / 128)
def numB (n : Int) : List UInt8 := numF 10 (zig n)
/-- a reader: its place, its first error -/
structure RS where
  pos : Nat
  wr : Int
def numR : List UInt8 → Nat → Nat → Int ⊕ (Nat × Nat)
  | [], _, _ => .inl 3
  | c :: r, i, u => if (0 < i ∧ c.toNat = 0) ∨ (i = 9 ∧ 1 < c.toNat) then .inl 4 else if c.toNat < 128 then .inr (u + c.toNat * 2 ^ (7 * i), i + 1) else numR r (i + 1) (u + c.toNat % 128 * 2 ^ (7 * i))
def numE (s : RS) : Int ⊕ (Nat × Nat) → Int × RS
  | .inl e => (0, ⟨s.pos, e⟩)
  | .inr (u, k) => (zag u, ⟨s.pos + k, s.wr⟩)
def RS.num (b : List UInt8) (s : RS) : Int × RS := if s.wr ≠ 0 then (0, s) else numE s (numR (b.drop s.pos) 0 0)
def RS.count (b : List UInt8) (s : RS) (most : Int) : Int × RS :=
  if (s.num b).2.wr = 0 ∧ ((s.num b).1 < 0 ∨ most < (s.num b).1) then (0, ⟨s.pos, 2⟩) else s.num b
def RS.text (b : List UInt8) (s : RS) (most : Int) : ByteArray × RS :=
  if (s.count b most).2.wr ≠ 0 then (noB, (s.count b most).2) else
  if ((b.length - (s.count b most).2.pos : Nat) : Int) < (s.count b most).1 then (noB, ⟨s.pos, 3⟩) else
  (⟨((b.drop (s.count b most).2.pos).take (s.count b most).1.toNat).toArray⟩, ⟨(s.count b most).2.pos + (s.count b most).1.toNat, 0⟩)
def RS.fin (b : List UInt8) (s : RS) : RS := if s.wr = 0 ∧ s.pos < b.length then ⟨s.pos, 5⟩ else s
def RS.bad (s : RS) : RS := if s.wr = 0 then ⟨s.pos, 4⟩ else s
theorem RS.num_bad {b : List UInt8} {s : RS} (h : s.wr ≠ 0) : s.num b = (0, s) := by simp [RS.num, h]
theorem zag_zig (n : Int) : zag (zig n) = n := by unfold zag zig; split <;> split <;> omega
theorem zig_lt (n : Int) (h : -9223372036854775808 ≤ n ∧ n ≤ 9223372036854775807) : zig n < 2 ^ 64 := by unfold zig; split <;> omega
/-- what was written is read -/
theorem numR_numF : ∀ (f u i a : Nat) (r : List UInt8), u < 2 ^ (64 - 7 * i) → 10 ≤ f + i → i ≤ 9 → (i = 0 ∨ 0 < u) → numR (numF f u ++ r) i a = .inr (a + u * 2 ^ (7 * i), i + (numF f u).length)
  | 0, u, i, a, r, hu, hf, hi, h0 => by omega
  | f + 1, u, i, a, r, hu, hf, hi, h0 => by
    simp only [numF]
    split
    · rename_i hlt
      have ht : (UInt8.ofNat u).toNat = u := by simp; omega
      have h9 : ¬ ((0 < i ∧ u = 0) ∨ (i = 9 ∧ 1 < u)) := by
        rintro (h | ⟨rfl, h⟩)
        · omega
        · have : (2 : Nat) ^ (64 - 7 * 9) = 2 := by decide
          omega
      simp only [List.cons_append, List.nil_append, numR, ht, if_neg h9, if_pos hlt]; rfl
    · rename_i hge
      have ht : (UInt8.ofNat (u % 128 + 128)).toNat = u % 128 + 128 := by simp; omega
      have hi9 : i ≠ 9 := by
        rintro rfl
        have : (2 : Nat) ^ (64 - 7 * 9) = 2 := by decide
        omega
      have h9 : ¬ ((0 < i ∧ u % 128 + 128 = 0) ∨ (i = 9 ∧ 1 < u % 128 + 128)) := by omega
      simp only [List.cons_append, numR, ht, if_neg h9, if_neg (show ¬ u % 128 + 128 < 128 by omega)]
      have hp : (2 : Nat) ^ (64 - 7 * i) = 2 ^ (64 - 7 * (i + 1)) * 128 := by
        rw [show 64 - 7 * i = (64 - 7 * (i + 1)) + 7 from by omega, Nat.pow_add]
      rw [numR_numF f (u / 128) (i + 1) _ r (by rw [hp] at hu; exact Nat.div_lt_of_lt_mul (by rw [Nat.mul_comm]; exact hu)) (by omega) (by omega) (by omega)]
      have hpow : (2 : Nat) ^ (7 * (i + 1)) = 128 * 2 ^ (7 * i) := by rw [show 7 * (i + 1) = 7 + 7 * i from by omega, Nat.pow_add]
      have e1 : a + (u % 128 + 128) % 128 * 2 ^ (7 * i) + u / 128 * 2 ^ (7 * (i + 1)) = a + u * 2 ^ (7 * i) := by
        rw [hpow, Nat.add_assoc, ← Nat.mul_assoc, ← Nat.add_mul]
        have : (u % 128 + 128) % 128 + u / 128 * 128 = u := by omega
        rw [this]
      rw [e1, List.length_cons]
      congr 2; omega
end Go.Fw
namespace Go.Fw
open Go.Proofs
/-- the block that a slice hangs on, if it has elements -/
def bk (v : Value) (b : List UInt8) : List Nat := if b = [] then [] else blkOf v
theorem bk_sub {v : Value} {b : List UInt8} : ∀ x ∈ bk v b, x ∈ blkOf v := fun x hx => by
  unfold bk at hx; split at hx
  · cases hx
  · exact hx
theorem RdB.there {m : Mem} {v : Value} {b : List UInt8} (h : RdB m v b) : ∀ x ∈ bk v b, m x ≠ none := fun x hx => by
  unfold bk at hx; split at hx
  · cases hx
  · rename_i hne
    obtain ⟨_, a, c, rfl, _, hr⟩ := h
    rcases hr with h0 | ⟨bb, o, rfl, hc⟩
    · have := bys_len b
      rw [bys, h0] at this
      exact absurd (List.eq_nil_of_length_eq_zero (by simpa using this.symm)) hne
    · simp only [blkOf, List.mem_singleton] at hx; subst hx
      have h1 : 0 < b.length := List.length_pos_iff.2 hne
      have h2 := hc 0 _ (List.getElem?_eq_getElem (by rw [fm_len bc_len]; omega))
      intro e; rw [e] at h2; cases h2
theorem RdB.stk {m m' : Mem} {v : Value} {b : List UInt8} (h : RdB m v b) (e : ∀ x ∈ bk v b, m' x = m x) : RdB m' v b := by
  by_cases hne : b = []
  · subst hne
    obtain ⟨hk, a, c, rfl, hc, _⟩ := h
    exact ⟨hk, a, c, rfl, hc, .inl rfl⟩
  · exact h.st fun x hx => e x (by unfold bk; rw [if_neg hne]; exact hx)
def rdrA (t rb : Nat) (a : Option Addr) (c : Nat) (b : List UInt8) (s : RS) : As where
  fp := rb :: bk (.slice a b.length c) b
  wp := [rb]
  sub _ h := by simp at h; simp [h]
  p m := m rb = some (.cells [Value.slice a b.length c, .int .i64 s.pos, .int .i64 s.wr].toArray t (0, 0)) ∧ RdB m (.slice a b.length c) b ∧ rb ∉ bk (.slice a b.length c) b ∧ (∀ x ∈ bk (.slice a b.length c) b, m x ≠ none) ∧ s.pos ≤ b.length ∧ b.length ≤ 1099511627776
  st h e := ⟨by rw [e _ (by simp)]; exact h.1, RdB.stk h.2.1 fun x hx => e x (List.mem_cons_of_mem _ hx), h.2.2.1, fun x hx => by rw [e x (List.mem_cons_of_mem _ hx)]; exact h.2.2.2.1 x hx, h.2.2.2.2⟩
  th h x hx := by
    rcases List.mem_cons.1 hx with rfl | hx
    · rw [h.1]; exact Option.some_ne_none _
    · exact h.2.2.2.1 x hx
instance {t rb : Nat} {a : Option Addr} {c : Nat} {b : List UInt8} {s : RS} {L : List As} {G : List (Nat × Obj)} [I : CellF L G] : CellF (rdrA t rb a c b s :: L) ((rb, .cells [Value.slice a b.length c, .int .i64 s.pos, .int .i64 s.wr].toArray t (0, 0)) :: G) := ⟨fun m h => ⟨h.1.1, I.h m h.2⟩⟩
instance {t rb : Nat} {a : Option Addr} {c : Nat} {b : List UInt8} {s s' : RS} : SameB (rdrA t rb a c b s') (rdrA t rb a c b s) := ⟨rfl, rfl⟩
variable {t rb : Nat} {a : Option Addr} {c : Nat} {b : List UInt8} {s : RS} {m m0 : Mem} {S : List Nat} {L : List As}
/-- -/
theorem wr_rdr {x : Obj} {J : Mem → Prop} {l : Lk J} {l' : Lk m} (H : Hq m0 m S (rdrA t rb a c b s :: L)) (s' : RS) (hx : x = .cells [Value.slice a b.length c, .int .i64 s'.pos, .int .i64 s'.wr].toArray t (0, 0)) (hp : s'.pos ≤ b.length)
    (k : ∀ M, Fr m M [rb] → Hq m0 M S (rdrA t rb a c b s' :: L) → J M) : wrO m rb x J l l' := by
  subst hx
  have h := H.at 0 rfl
  have f : Fr m (m.set rb (.cells [Value.slice a b.length c, .int .i64 s'.pos, .int .i64 s'.wr].toArray t (0, 0))) [rb] := Fr.set (by simp)
  refine k _ f (repQ0 (A' := rdrA t rb a c b s') H ⟨set_self _ _, ?_, h.2.2.1, ?_, hp, h.2.2.2.2.2⟩ f (fun b hb => .inl hb) (fun b hb => .inl hb))
  · exact RdB.stk h.2.1 fun x hx => f x (h.2.2.2.1 x hx) (by simp; rintro rfl; exact h.2.2.1 hx)
  · exact fun x hx => f.some (h.2.2.2.1 x hx) (by simp; rintro rfl; exact h.2.2.1 hx)
abbrev lpp (rb : Nat) : Value := .pointer (some ⟨rb, 0, none⟩)
theorem bc_0 (x : UInt8) : (bc x)[0]? = some (bv x) := rfl
attribute [go_sem] bc_0
theorem word_Zag_s (u : Nat) (hu : u < 2 ^ 64) (m : Mem) : MC Tryz.prog n_word_Zag [.int .u64 (u : Int)] m fun v M => v = .int .i64 (zag u) ∧ Fr m M [] := by
  refine word_Zag_go (by simp [Tryz.f33]) ?_
  have h2 : u % 2 = 0 ∨ u % 2 = 1 := by omega
  have h3 : ((u / 2 ^ 1 : Nat) : Int) ≤ 9223372036854775807 := by omega
  have h4 : (0 : Int) ≤ ((u / 2 ^ 1 : Nat) : Int) := by omega
  rcases h2 with h2 | h2
  · simp (disch := omega) only [go_sem, undef, rd_u64_shr u 1 1 rfl (by omega), rd_u64_and1 u hu, h2, rd_i64_xor0, Int.natCast_zero, Int.sub_self]
    exact ⟨by simp [zag, h2], Fr.refl _ _⟩
  · simp (disch := omega) only [go_sem, undef, rd_u64_shr u 1 1 rfl (by omega), rd_u64_and1 u hu, h2, rd_i64_xor1, Int.natCast_one, show (0 : Int) - 1 = -1 from rfl]
    exact ⟨by simp [zag, h2], Fr.refl _ _⟩
theorem pack_fail_s (h : (rdrA t rb a c b s).p m) (from_ : Nat) (hf : from_ ≤ b.length) (e : Int) : MC Tryz.prog n_pack_Reader_fail [lpp rb, .int .i64 (from_ : Int), .int .i64 e] m fun v M => (v = .tuple #[] ∧ (rdrA t rb a c b ⟨from_, e⟩).p M) ∧ Fr m M [rb] := by
  refine pack_Reader_fail_go (by simp [Tryz.f33]) ?_
  have H := Hq.one h
  simp (disch := omega) only [go_sem, undef, H.cs]
  refine wr_rdr H ⟨from_, s.wr⟩ rfl hf fun M f H => ?_
  simp (disch := omega) only [go_sem, undef, H.cs]
  refine wr_rdr H ⟨from_, e⟩ rfl hf fun M f H => ?_
  simp (disch := omega) only [go_sem, undef]
  exact ⟨⟨rfl, H.hs.1⟩, H.fr⟩
theorem drop_cell {b : List UInt8} {k : Nat} {x : UInt8} (h : b[k]? = some x) : b.drop k = x :: b.drop (k + 1) := by
  obtain ⟨h1, rfl⟩ := List.getElem?_eq_some_iff.1 h
  exact List.drop_eq_getElem_cons h1
theorem pack_Num_s (h : (rdrA t rb a c b s).p m) : MC Tryz.prog n_pack_Reader_Num [lpp rb] m fun v M => (v = .int .i64 (s.num b).1 ∧ (rdrA t rb a c b (s.num b).2).p M) ∧ Fr m M [rb] := by
  refine pack_Reader_Num_go (by simp [Tryz.f33]) ?_
  have H := Hq.one h
  simp (disch := omega) only [go_sem, undef, H.cs]
  refine condB_dec (fun h0 => ?_) (fun h0 => ?_)
  rotate_left
  · rw [RS.num_bad h0]
    simp (disch := omega) only [go_sem, undef]
    exact ⟨⟨rfl, H.hs.1⟩, H.fr⟩
  · have hnum : s.num b = numE s (numR (b.drop s.pos) 0 0) := by simp [RS.num, h0]
    rw [hnum]
    simp (disch := omega) only [go_sem, undef, H.cs]
    have hp := h.2.2.2.2.1
    have hB := h.2.2.2.2.2
    refine loopQ_intro (fun n E m' => ∃ i u, n = b.length - (s.pos + i) ∧ E = [(0, lpp rb), (3, .int .i64 (s.pos : Int)), (4, .int .u64 (u : Nat)), (5, .int .i64 (i : Nat))] ∧ i ≤ 9 ∧ s.pos + i ≤ b.length ∧ u < 2 ^ (7 * i) ∧ numR (b.drop s.pos) 0 0 = numR (b.drop (s.pos + i)) i u ∧
      Hq m m' [rb] [rdrA t rb a c b ⟨s.pos + i, 0⟩]) (b.length - s.pos) rfl ⟨0, 0, by omega, rfl, by omega, by omega, by decide, rfl, by rw [← h0]; exact H⟩ ?_
    clear H h
    rintro n E m' ⟨i, u, rfl, rfl, hi, hpi, hu, hr, H⟩
    simp (disch := omega) only [go_sem, undef, H.cs]
    refine condB_dec (fun h1 => ?_) (fun h1 => ?_)
    · simp (disch := omega) only [go_sem, undef]
      refine callS0 (rdrA t rb a c b ⟨s.pos, 3⟩) H (pack_fail_s (H.at 0 rfl) s.pos hp 3) rfl rfl fun M f H => ?_
      simp (disch := omega) only [go_sem, undef]
      have : b.drop (s.pos + i) = [] := List.drop_eq_nil_iff.2 (by omega)
      rw [hr, this]
      exact ⟨⟨rfl, H.hs.1⟩, H.fr⟩
    · have h2 : s.pos + i < b.length := by omega
      refine RdS.elK (H.at 0 rfl).2.1 h2 (by decide) fun b1 o1 x hx hix hE => ?_
      rw [drop_cell hx] at hr
      simp only [numR] at hr
      have hxl := x.toNat_lt
      have hpw : i = 9 → (2 : Nat) ^ (7 * i) = 9223372036854775808 := by rintro rfl; decide
      have hpw8 : i ≤ 8 → (2 : Nat) ^ (7 * i) ≤ 72057594037927936 := fun h => Nat.le_trans (Nat.pow_le_pow_right (by omega) (show 7 * i ≤ 56 by omega)) (by decide)
      have hps : (2 : Nat) ^ (7 * (i + 1)) = 128 * 2 ^ (7 * i) := by rw [show 7 * (i + 1) = 7 + 7 * i from by omega, Nat.pow_add]
      generalize hP : (2 : Nat) ^ (7 * i) = P at *
      have hmul : x.toNat % 128 * P ≤ 127 * P := Nat.mul_le_mul_right P (by omega)
      have hmul1 : x.toNat ≤ 1 → x.toNat % 128 * P ≤ 1 * P := fun h => Nat.mul_le_mul_right P (by omega)
      simp (disch := omega) only [go_sem, undef, H.cs, hix, hE.ld0]
      repeat' (first
        | ((with_reducible refine newQ H fun _ _ f H2 => ?_); clear f; clear H; have H := H2; clear H2; simp (disch := omega) only [go_sem, undef, H.cs, *])
        | ((with_reducible refine wrQ0 H fun _ f H2 => ?_); clear f; clear H; have H := H2; clear H2; simp (disch := omega) only [go_sem, undef, H.cs, *])
        | ((with_reducible refine wrQ1 H fun _ f H2 => ?_); clear f; clear H; have H := H2; clear H2; simp (disch := omega) only [go_sem, undef, H.cs, *])
        | ((with_reducible refine wrQ2 H fun _ f H2 => ?_); clear f; clear H; have H := H2; clear H2; simp (disch := omega) only [go_sem, undef, H.cs, *])
        | ((with_reducible refine wrQ3 H fun _ f H2 => ?_); clear f; clear H; have H := H2; clear H2; simp (disch := omega) only [go_sem, undef, H.cs, *])
        | ((with_reducible refine wrQ4 H fun _ f H2 => ?_); clear f; clear H; have H := H2; clear H2; simp (disch := omega) only [go_sem, undef, H.cs, *])
        | ((with_reducible refine wrQ5 H fun _ f H2 => ?_); clear f; clear H; have H := H2; clear H2; simp (disch := omega) only [go_sem, undef, H.cs, *])
        | ((with_reducible refine stwQ0 H ?hl ?h1 fun _ f H2 => ?_); (case hl => rfl); (case h1 => rfl); clear f; clear H; have H := H2; clear H2; simp (disch := omega) only [go_sem, undef, H.cs, *])
        | ((with_reducible refine stwQ1 H ?hl ?h1 fun _ f H2 => ?_); (case hl => rfl); (case h1 => rfl); clear f; clear H; have H := H2; clear H2; simp (disch := omega) only [go_sem, undef, H.cs, *])
        | ((with_reducible refine stwQ2 H ?hl ?h1 fun _ f H2 => ?_); (case hl => rfl); (case h1 => rfl); clear f; clear H; have H := H2; clear H2; simp (disch := omega) only [go_sem, undef, H.cs, *])
        | ((with_reducible refine stwQ3 H ?hl ?h1 fun _ f H2 => ?_); (case hl => rfl); (case h1 => rfl); clear f; clear H; have H := H2; clear H2; simp (disch := omega) only [go_sem, undef, H.cs, *])
        | ((with_reducible refine stwQ4 H ?hl ?h1 fun _ f H2 => ?_); (case hl => rfl); (case h1 => rfl); clear f; clear H; have H := H2; clear H2; simp (disch := omega) only [go_sem, undef, H.cs, *])
        | ((with_reducible refine stwQ5 H ?hl ?h1 fun _ f H2 => ?_); (case hl => rfl); (case h1 => rfl); clear f; clear H; have H := H2; clear H2; simp (disch := omega) only [go_sem, undef, H.cs, *])
        | ((with_reducible refine stQ0 H ?hl ?h1 fun _ f H2 => ?_); (case hl => exact Nat.le_of_ble_eq_true rfl); (case h1 => rfl); clear f; (simp only [go_sem] at H2); clear H; have H := H2; clear H2; simp (disch := omega) only [go_sem, undef, H.cs, *])
        | ((with_reducible refine stQ1 H ?hl ?h1 fun _ f H2 => ?_); (case hl => exact Nat.le_of_ble_eq_true rfl); (case h1 => rfl); clear f; (simp only [go_sem] at H2); clear H; have H := H2; clear H2; simp (disch := omega) only [go_sem, undef, H.cs, *])
        | ((with_reducible refine stQ2 H ?hl ?h1 fun _ f H2 => ?_); (case hl => exact Nat.le_of_ble_eq_true rfl); (case h1 => rfl); clear f; (simp only [go_sem] at H2); clear H; have H := H2; clear H2; simp (disch := omega) only [go_sem, undef, H.cs, *])
        | ((with_reducible refine stQ3 H ?hl ?h1 fun _ f H2 => ?_); (case hl => exact Nat.le_of_ble_eq_true rfl); (case h1 => rfl); clear f; (simp only [go_sem] at H2); clear H; have H := H2; clear H2; simp (disch := omega) only [go_sem, undef, H.cs, *])
        | ((with_reducible refine gQ_split (fun hq => ?_) (fun hq => ?_)) <;> (try simp only [Bool.not_true, Bool.not_false] at hq) <;> simp (disch := omega) only [go_sem, undef, H.cs, *])
        | ((with_reducible refine condB_split (fun hq => ?_) (fun hq => ?_)) <;> simp (disch := omega) only [go_sem, undef, H.cs, *]))
      all_goals (simp only [decide_eq_true_eq, decide_eq_false_iff_not] at *)
      all_goals first
        | (exfalso; omega)
        | (refine callS0 (rdrA t rb a c b ⟨s.pos, 4⟩) H (pack_fail_s (H.at 0 rfl) s.pos hp 4) rfl rfl fun M f H => ?_
           rw [hr, if_pos (by omega)]
           simp (disch := omega) only [go_sem, undef]
           exact ⟨⟨rfl, H.hs.1⟩, H.fr⟩)
        | (have hbad : ¬ ((0 < i ∧ x.toNat = 0) ∨ (i = 9 ∧ 1 < x.toNat)) := by omega
           rw [if_neg hbad] at hr
           refine wr_rdr H ⟨s.pos + i + 1, 0⟩ rfl (by simp only; omega) fun M f H => ?_
           by_cases h3 : x.toNat < 128
           · rw [if_pos (by omega)] at hr
             simp (disch := omega) only [go_sem, undef, H.cs, rd_u8_and x.toNat hxl, u64_in, rd_u64_shl' (x.toNat % 128) .u64 (7 * i) (7 * i) (by omega) (by omega) (by rw [hP]; omega), hP, rd_u64_or (7 * i) u (x.toNat % 128 * P) (by omega) (by rw [hP]; exact Nat.mul_mod_left _ _) (by omega)]
             refine callQ H (word_Zag_s _ (by omega) M) fun M f H => ?_
             simp (disch := omega) only [go_sem, undef]
             rw [hr]
             have e1 : x.toNat % 128 = x.toNat := by omega
             refine ⟨⟨by simp only [numE, e1], ?_⟩, H.fr⟩
             simp only [numE, h0]
             exact H.hs.1
           · rw [if_neg (by omega)] at hr
             first
               | (exfalso; omega)
               | (simp (disch := omega) only [go_sem, undef, H.cs, rd_u8_and x.toNat hxl, u64_in, rd_u64_shl' (x.toNat % 128) .u64 (7 * i) (7 * i) (by omega) (by omega) (by rw [hP]; omega), hP, rd_u64_or (7 * i) u (x.toNat % 128 * P) (by omega) (by rw [hP]; exact Nat.mul_mod_left _ _) (by omega)]
                  exact handN_intro (b.length - (s.pos + (i + 1))) (by omega) ⟨i + 1, u + x.toNat % 128 * P, rfl, rfl, by omega, by omega, by omega, hr, H⟩))
end Go.Fw
namespace Go.Fw
open Go.Proofs
variable {t rb : Nat} {a : Option Addr} {c : Nat} {b : List UInt8} {s : RS} {m m0 : Mem} {S : List Nat} {L : List As}
theorem rdr_pos (h : (rdrA t rb a c b s).p m) : s.pos ≤ b.length := h.2.2.2.2.1
theorem rdr_len (h : (rdrA t rb a c b s).p m) : b.length ≤ 1099511627776 := h.2.2.2.2.2
theorem pack_End_s (h : (rdrA t rb a c b s).p m) : MC Tryz.prog n_pack_Reader_End [lpp rb] m fun v M => (v = .int .i64 (s.fin b).wr ∧ (rdrA t rb a c b (s.fin b)).p M) ∧ Fr m M [rb] := by
  refine pack_Reader_End_go (by simp [Tryz.f33]) ?_
  have H := Hq.one h
  have hp := rdr_pos h
  by_cases h1 : s.wr = 0 ∧ s.pos < b.length
  · rw [show s.fin b = ⟨s.pos, 5⟩ from if_pos h1]
    obtain ⟨h1, h2⟩ := h1
    simp (disch := omega) only [go_sem, undef, H.cs, h1, dec_t]
    refine wr_rdr H ⟨s.pos, 5⟩ rfl hp fun M f H => ?_
    simp (disch := omega) only [go_sem, undef, H.cs]
    exact ⟨⟨rfl, H.hs.1⟩, H.fr⟩
  · rw [show s.fin b = s from if_neg h1]
    simp (disch := omega) only [go_sem, undef, H.cs]
    repeat' (first
      | ((with_reducible refine newQ H fun _ _ f H2 => ?_); clear f; clear H; have H := H2; clear H2; simp (disch := omega) only [go_sem, undef, H.cs, *])
      | ((with_reducible refine wrQ0 H fun _ f H2 => ?_); clear f; clear H; have H := H2; clear H2; simp (disch := omega) only [go_sem, undef, H.cs, *])
      | ((with_reducible refine wrQ1 H fun _ f H2 => ?_); clear f; clear H; have H := H2; clear H2; simp (disch := omega) only [go_sem, undef, H.cs, *])
      | ((with_reducible refine wrQ2 H fun _ f H2 => ?_); clear f; clear H; have H := H2; clear H2; simp (disch := omega) only [go_sem, undef, H.cs, *])
      | ((with_reducible refine wrQ3 H fun _ f H2 => ?_); clear f; clear H; have H := H2; clear H2; simp (disch := omega) only [go_sem, undef, H.cs, *])
      | ((with_reducible refine wrQ4 H fun _ f H2 => ?_); clear f; clear H; have H := H2; clear H2; simp (disch := omega) only [go_sem, undef, H.cs, *])
      | ((with_reducible refine wrQ5 H fun _ f H2 => ?_); clear f; clear H; have H := H2; clear H2; simp (disch := omega) only [go_sem, undef, H.cs, *])
      | ((with_reducible refine stwQ0 H ?hl ?h1 fun _ f H2 => ?_); (case hl => rfl); (case h1 => rfl); clear f; clear H; have H := H2; clear H2; simp (disch := omega) only [go_sem, undef, H.cs, *])
      | ((with_reducible refine stwQ1 H ?hl ?h1 fun _ f H2 => ?_); (case hl => rfl); (case h1 => rfl); clear f; clear H; have H := H2; clear H2; simp (disch := omega) only [go_sem, undef, H.cs, *])
      | ((with_reducible refine stwQ2 H ?hl ?h1 fun _ f H2 => ?_); (case hl => rfl); (case h1 => rfl); clear f; clear H; have H := H2; clear H2; simp (disch := omega) only [go_sem, undef, H.cs, *])
      | ((with_reducible refine stwQ3 H ?hl ?h1 fun _ f H2 => ?_); (case hl => rfl); (case h1 => rfl); clear f; clear H; have H := H2; clear H2; simp (disch := omega) only [go_sem, undef, H.cs, *])
      | ((with_reducible refine stwQ4 H ?hl ?h1 fun _ f H2 => ?_); (case hl => rfl); (case h1 => rfl); clear f; clear H; have H := H2; clear H2; simp (disch := omega) only [go_sem, undef, H.cs, *])
      | ((with_reducible refine stwQ5 H ?hl ?h1 fun _ f H2 => ?_); (case hl => rfl); (case h1 => rfl); clear f; clear H; have H := H2; clear H2; simp (disch := omega) only [go_sem, undef, H.cs, *])
      | ((with_reducible refine stQ0 H ?hl ?h1 fun _ f H2 => ?_); (case hl => exact Nat.le_of_ble_eq_true rfl); (case h1 => rfl); clear f; (simp only [go_sem] at H2); clear H; have H := H2; clear H2; simp (disch := omega) only [go_sem, undef, H.cs, *])
      | ((with_reducible refine stQ1 H ?hl ?h1 fun _ f H2 => ?_); (case hl => exact Nat.le_of_ble_eq_true rfl); (case h1 => rfl); clear f; (simp only [go_sem] at H2); clear H; have H := H2; clear H2; simp (disch := omega) only [go_sem, undef, H.cs, *])
      | ((with_reducible refine stQ2 H ?hl ?h1 fun _ f H2 => ?_); (case hl => exact Nat.le_of_ble_eq_true rfl); (case h1 => rfl); clear f; (simp only [go_sem] at H2); clear H; have H := H2; clear H2; simp (disch := omega) only [go_sem, undef, H.cs, *])
      | ((with_reducible refine stQ3 H ?hl ?h1 fun _ f H2 => ?_); (case hl => exact Nat.le_of_ble_eq_true rfl); (case h1 => rfl); clear f; (simp only [go_sem] at H2); clear H; have H := H2; clear H2; simp (disch := omega) only [go_sem, undef, H.cs, *])
      | ((with_reducible refine gQ_split (fun hq => ?_) (fun hq => ?_)) <;> (try simp only [Bool.not_true, Bool.not_false] at hq) <;> simp (disch := omega) only [go_sem, undef, H.cs, *])
      | ((with_reducible refine condB_split (fun hq => ?_) (fun hq => ?_)) <;> simp (disch := omega) only [go_sem, undef, H.cs, *]))
    all_goals (try simp only [decide_eq_true_eq, decide_eq_false_iff_not] at *)
    all_goals first
      | exact ⟨⟨rfl, H.hs.1⟩, H.fr⟩
      | (exfalso; omega)
end Go.Fw
namespace Go.Fw
open Go.Proofs
variable {m : Mem}
theorem word_Zig_s (n : Int) (h : -9223372036854775808 ≤ n ∧ n ≤ 9223372036854775807) : MC Tryz.prog n_word_Zig [.int .i64 n] m fun v M => v = .int .u64 ((zig n : Nat) : Int) ∧ Fr m M [] := by
  refine word_Zig_go (by simp [Tryz.f33]) ?_
  have e1 : ∀ M, rd (.ish .shr) [.int .i64 n, .int .u64 63] M = some (.int .i64 (if n < 0 then -1 else 0)) := fun M => by
    show (if (63 : Int) < 0 then none else some (Value.int .i64 (n.fdiv (2 ^ min (63 : Int).toNat 64)))) = _
    rw [if_neg (by omega)]
    congr 2
    rw [Int.fdiv_eq_ediv_of_nonneg _ (by decide)]
    show n / 9223372036854775808 = _
    split <;> omega
  have e2 : ∀ M, rd (.ish .shl) [.int .u64 (IntKind.u64.wrap n), .int .u64 1] M = some (.int .u64 ((2 * n % 18446744073709551616).toNat : Nat)) := fun M => by
    show (if (1 : Int) < 0 then none else some (Value.int .u64 (IntKind.u64.wrap (IntKind.u64.wrap n * 2 ^ min (1 : Int).toNat 64)))) = _
    rw [if_neg (by omega)]
    congr 2
    show IntKind.u64.wrap (IntKind.u64.wrap n * 2) = _
    simp [IntKind.wrap, IntKind.bits, IntKind.signed]; omega
  by_cases h0 : n < 0
  · simp (disch := omega) only [go_sem, undef, e1, e2, if_pos h0, show IntKind.u64.wrap (-1) = 18446744073709551615 from by decide, rd_u64_xor1 (2 * n % 18446744073709551616).toNat (by omega)]
    refine ⟨?_, Fr.refl _ _⟩
    congr 1
    simp only [zig, if_pos h0]; omega
  · simp (disch := omega) only [go_sem, undef, e1, e2, if_neg h0, show IntKind.u64.wrap 0 = 0 from by decide, rd_u64_xor0 (2 * n % 18446744073709551616).toNat (by omega)]
    refine ⟨?_, Fr.refl _ _⟩
    congr 1
    simp only [zig, if_neg h0]; omega
theorem pack_grown_s {v : Value} {l : List UInt8} (hv : RdB m v l) (hl : l.length ≤ 1099511627776) (k : Nat) (hk : k ≤ 1099511627776) : CN Tryz.prog n_pack_grown [v, .int .i64 (k : Int)] m fun u A => A = byA T_uint8 u l := by
  obtain ⟨a, c, rfl⟩ := hv.form
  refine pack_grown_go (by simp [Tryz.f33]) ?_
  have H := Hq.refl m []
  simp (disch := omega) only [go_sem, undef]
  refine newQ H fun b M f H => ?_
  have H := H.toRow 1 0 (l.length + k) (by simp; omega) (by omega)
  simp only [Nat.zero_mul, List.take_zero] at H
  have e1 : ((l.length : Int) + (k : Int)).toNat = l.length + k := by omega
  simp (disch := omega) only [go_sem, undef, e1]
  have hv2 := hv.frame f
  refine appQ0 H (k := l.length) rfl (ldS_of hv2) (by rw [bys_len]; omega) (bys_one l) rfl (by omega) (by omega) fun u M f H => ?_
  simp (disch := omega) only [go_sem, undef]
  refine ⟨byA T_uint8 u l, rfl, ?_, H.fr, fun b hb => (H.done.2.2 b hb).resolve_left (by simp)⟩
  have := H.hs.1
  simpa using this
theorem numF_len (f u : Nat) : (numF f u).length ≤ f := by
  induction f generalizing u with
  | zero => simp [numF]
  | succ f ih => simp only [numF]; split <;> simp; exact ih _
theorem numB_len (n : Int) : (numB n).length ≤ 10 := numF_len _ _
theorem pack_num_s {v : Value} {l : List UInt8} (hv : (byA T_uint8 v l).p m) (hl : l.length ≤ 1099511627776) (n : Int) (hn : -9223372036854775808 ≤ n ∧ n ≤ 9223372036854775807) : CM Tryz.prog n_pack_num [v, .int .i64 n] m (byA T_uint8 v l) fun u A => A = byA T_uint8 u (l ++ numB n) := by
  refine pack_num_go (by simp [Tryz.f33]) ?_
  have H := Hq.one hv
  simp (disch := omega) only [go_sem, undef]
  refine callQ H (word_Zig_s n hn) fun M f H => ?_
  simp (disch := omega) only [go_sem, undef]
  refine loopQ_intro (fun k E m' => ∃ i q done w, k = 10 - i ∧ E = [(0, w), (5, .int .u64 (q : Nat))] ∧ i ≤ 9 ∧ q < 2 ^ (64 - 7 * i) ∧ done.length = i ∧ numB n = done ++ numF (10 - i) q ∧ Hq m m' (blkOf v) [byA T_uint8 w (l ++ done)]) 10 rfl ⟨0, zig n, [], v, rfl, rfl, by omega, by simpa using zig_lt n hn, rfl, rfl, by simpa using H⟩ ?_
  clear H f hv
  rintro k E m' ⟨i, q, done, w, rfl, rfl, hi, hq, hd, he, H⟩
  have hp : (2 : Nat) ^ (64 - 7 * i) = if i = 9 then 2 else 2 ^ (64 - 7 * (i + 1)) * 128 := by
    split
    · rename_i e; subst e; decide
    · rw [show 64 - 7 * i = (64 - 7 * (i + 1)) + 7 from by omega, Nat.pow_add]
  have hq64 : q < 18446744073709551616 := Nat.lt_of_lt_of_le hq (Nat.le_trans (Nat.pow_le_pow_right (by omega) (show 64 - 7 * i ≤ 64 by omega)) (by decide))
  simp (disch := omega) only [go_sem, undef, u64_in]
  by_cases h1 : 128 ≤ q
  · have hi9 : i ≠ 9 := by
      rintro rfl
      simp at hp; omega
    rw [if_neg hi9] at hp
    simp (disch := omega) only [go_sem, undef, dec_t, u8_wrap, rd_u8_or (q % 256) (by omega)]
    refine newQ H fun b1 M f H => ?_
    simp (disch := omega) only [go_sem, undef]
    refine appQ1 H (k := 1) rfl (ldS_cell (l := [_]) H.cs.1 (by simp)) rfl (by simp [Value.oneCell']) rfl (by simp; omega) (by simp; omega) fun w2 M f H => ?_
    have H := H.tail
    rw [show [Value.int IntKind.u8 ((q % 256 % 128 + 128 : Nat) : Int)].take (1 * 1) = bys [UInt8.ofNat (q % 128 + 128)] from by
      show [Value.int IntKind.u8 _] = [bv _]
      rw [← bv_of _ (by omega), show q % 256 % 128 = q % 128 from by omega]] at H
    have H : Hq m M (blkOf v) [byA T_uint8 w2 (l ++ (done ++ [UInt8.ofNat (q % 128 + 128)]))] := by
      rw [← List.append_assoc, ← byA_app]; exact H
    simp (disch := omega) only [go_sem, undef, rd_u64_shr q 7 7 rfl (by omega)]
    have e10 : 10 - i = (10 - (i + 1)) + 1 := by omega
    rw [e10, numF, if_neg (by omega)] at he
    exact handN_intro (10 - (i + 1)) (by omega) ⟨i + 1, q / 2 ^ 7, _, w2, rfl, rfl, by omega, by rw [hp] at hq; exact Nat.div_lt_of_lt_mul (by omega), by simp [hd], by rw [he]; simp, H⟩
  · simp (disch := omega) only [go_sem, undef, dec_f, u8_wrap]
    refine newQ H fun b1 M f H => ?_
    simp (disch := omega) only [go_sem, undef]
    refine appQ1 H (k := 1) rfl (ldS_cell (l := [_]) H.cs.1 (by simp)) rfl (by simp [Value.oneCell']) rfl (by simp; omega) (by simp; omega) fun w2 M f H => ?_
    have H := H.tail
    rw [show [Value.int IntKind.u8 ((q % 256 : Nat) : Int)].take (1 * 1) = bys [UInt8.ofNat q] from by
      show [Value.int IntKind.u8 _] = [bv _]
      rw [show q % 256 = q from by omega, ← bv_of _ (by omega)]] at H
    have e10 : 10 - i = (10 - (i + 1)) + 1 := by omega
    rw [e10, numF, if_pos (by omega)] at he
    have H : Hq m M (blkOf v) [byA T_uint8 w2 (l ++ numB n)] := by
      rw [he, ← List.append_assoc, ← byA_app]; exact H
    simp (disch := omega) only [go_sem, undef]
    exact ⟨_, rfl, H.hs.1, H.fr, fun b hb => H.done.2.2 b hb, fun b hb => H.done.2.2 b hb⟩
theorem pack_Num_w {v : Value} {l : List UInt8} (hv : RdB m v l) (hl : l.length ≤ 549755813888) (n : Int) (hn : -9223372036854775808 ≤ n ∧ n ≤ 9223372036854775807) : CN Tryz.prog n_pack_Num [v, .int .i64 n] m fun u A => A = byA T_uint8 u (l ++ numB n) := by
  refine pack_Num_go (by simp [Tryz.f33]) ?_
  have H := Hq.refl m []
  simp (disch := omega) only [go_sem, undef]
  refine callN H (pack_grown_s hv (by omega) 10 (by omega)) fun u M A' eA f H => ?_
  subst eA
  simp (disch := omega) only [go_sem, undef]
  refine callA0 H (pack_num_s (H.at 0 rfl) (by omega) n hn) fun u M A' eA f H => ?_
  subst eA
  simp (disch := omega) only [go_sem, undef]
  exact ⟨_, rfl, H.hs.1, H.fr, fun b hb => (H.done.2.2 b hb).resolve_left (by simp)⟩
theorem pack_Read_s {v : Value} {l : List UInt8} (hv : RdB m v l) (hl : l.length ≤ 1099511627776) : CN Tryz.prog n_pack_Read [v] m fun u A => ∃ rb a c, u = lpp rb ∧ A = rdrA T_pack_Reader rb a c l ⟨0, 0⟩ := by
  refine pack_Read_go (by simp [Tryz.f33]) ?_
  have H := Hq.refl m []
  simp (disch := omega) only [go_sem, undef]
  refine callN H (pack_grown_s hv (by omega) 0 (by omega)) fun u M A' eA f H => ?_
  subst eA
  refine Own.formK (H.at 0 rfl) fun a c e => ?_
  subst e
  simp (disch := omega) only [go_sem, undef]
  refine newQ H fun rb M f H => ?_
  simp (disch := omega) only [go_sem, undef]
  have hd := H.dj
  have h0 : ∀ b ∈ rb :: bk (.slice a l.length c) l, m b = none := fun b hb => by
    rcases List.mem_cons.1 hb with rfl | hb
    · exact (H.done.2.2 b (by simp)).resolve_left (by simp)
    · exact ((H.tail).done.2.2 b (bk_sub b hb)).resolve_left (by simp)
  refine ⟨_, ⟨rb, a, c, rfl, rfl⟩, ?_, H.fr, h0⟩
  exact ⟨H.cs.1, byA_rd (H.at 1 rfl), by have := (List.pairwise_cons.1 hd).1 _ (List.mem_cons_self ..); exact fun h => this.1 rb (by simp) (bk_sub _ h), fun x hx => (H.at 1 rfl).there x (bk_sub _ hx), by simp, hl⟩
end Go.Fw
/-! Frames of records: plain. -/
namespace Go.Fw
abbrev Bs := List UInt8
/-- one bit of the sum -/
def crcB (c : Nat) : Nat := if c % 2 = 1 then (c / 2) ^^^ 0xEDB88320 else c / 2
def crcN : Nat → Nat → Nat
  | 0, c => c
  | n + 1, c => crcN n (crcB c)
def crcX (c : Nat) (x : UInt8) : Nat := crcN 8 (c ^^^ x.toNat)
def crcL (l : Bs) (c : Nat) : Nat := l.foldl crcX c
def crcO (l : Bs) : Nat := (crcL l 0xFFFFFFFF) ^^^ 0xFFFFFFFF
/-- the lowest k bytes of a number -/
def le : Nat → Nat → Bs
  | 0, _ => []
  | k + 1, u => UInt8.ofNat (u % 256) :: le k (u / 256)
def ofLe : Bs → Nat
  | [] => 0
  | c :: r => c.toNat + 256 * ofLe r
theorem le_len : ∀ k u, (le k u).length = k
  | 0, _ => rfl
  | k + 1, u => by simp [le, le_len k]
theorem ofLe_le : ∀ k u, u < 256 ^ k → ofLe (le k u) = u
  | 0, u, h => by simp at h; subst h; rfl
  | k + 1, u, h => by
    have : u / 256 < 256 ^ k := by rw [Nat.pow_succ] at h; omega
    simp only [le, ofLe, ofLe_le k _ this, UInt8.toNat_ofNat']
    omega
theorem crcB_lt {c : Nat} (h : c < 2 ^ 32) : crcB c < 2 ^ 32 := by
  unfold crcB
  split
  · exact Nat.xor_lt_two_pow (by omega) (by decide)
  · omega
theorem crcN_lt : ∀ n {c : Nat}, c < 2 ^ 32 → crcN n c < 2 ^ 32
  | 0, _, h => h
  | n + 1, c, h => crcN_lt n (crcB_lt h)
theorem crcX_lt {c : Nat} (h : c < 2 ^ 32) (x : UInt8) : crcX c x < 2 ^ 32 := crcN_lt 8 (Nat.xor_lt_two_pow h (by have := x.toNat_lt; omega))
theorem crcL_lt : ∀ (l : Bs) {c : Nat}, c < 2 ^ 32 → crcL l c < 2 ^ 32
  | [], c, h => h
  | x :: r, c, h => crcL_lt r (crcX_lt h x)
theorem crcO_lt (l : Bs) : crcO l < 2 ^ 32 := Nat.xor_lt_two_pow (crcL_lt l (by decide)) (by decide)
/-- what the sum is of -/
abbrev hdB (p : Bs) : Bs := le 2 p.length ++ p
def frB (p : Bs) : Bs := hdB p ++ le 4 (crcO (hdB p))
theorem hdB_len (p : Bs) : (hdB p).length = p.length + 2 := by simp [le_len]; omega
theorem frB_len (p : Bs) : (frB p).length = p.length + 6 := by simp [frB, le_len]; omega
/-- the frame that stands ahead -/
def nextF (b : Bs) : Option (Bs × Nat) :=
  if b.length < 2 then none
  else if ofLe (b.take 2) = 0 ∨ 16384 < ofLe (b.take 2) then none
  else if b.length < 2 + ofLe (b.take 2) + 4 then none
  else if ofLe ((b.drop (2 + ofLe (b.take 2))).take 4) ≠ crcO (b.take (2 + ofLe (b.take 2))) then none
  else some ((b.drop 2).take (ofLe (b.take 2)), 2 + ofLe (b.take 2) + 4)
theorem nextF_fr (p r : Bs) (h0 : 0 < p.length) (h1 : p.length ≤ 16384) : nextF (frB p ++ r) = some (p, p.length + 6) := by
  have hb : frB p ++ r = le 2 p.length ++ (p ++ (le 4 (crcO (hdB p)) ++ r)) := by simp [frB]
  have ht : (frB p ++ r).take 2 = le 2 p.length := by
    rw [hb]; exact List.take_left' (le_len 2 _)
  have hn : ofLe (le 2 p.length) = p.length := ofLe_le 2 _ (by omega)
  have hl : (frB p ++ r).length = p.length + 6 + r.length := by rw [List.length_append, frB_len]
  have hd2 : (frB p ++ r).drop 2 = p ++ (le 4 (crcO (hdB p)) ++ r) := by
    rw [hb]; exact List.drop_left' (le_len 2 _)
  have hdn : (frB p ++ r).drop (2 + p.length) = le 4 (crcO (hdB p)) ++ r := by
    rw [← List.drop_drop, hd2, List.drop_left]
  have htn : (frB p ++ r).take (2 + p.length) = hdB p := by
    rw [frB, List.append_assoc]; exact List.take_left' (by rw [hdB_len]; omega)
  unfold nextF
  rw [ht, hn, if_neg (by omega), if_neg (by omega), if_neg (by omega), hdn, htn, List.take_left' (le_len 4 _), ofLe_le 4 _ (crcO_lt _), if_neg (by simp), hd2, List.take_left]
  simp; omega
theorem nextF_pos {b p : Bs} {n : Nat} (h : nextF b = some (p, n)) : 0 < n ∧ n ≤ b.length ∧ n = p.length + 6 := by
  unfold nextF at h
  split at h
  · cases h
  · split at h
    · cases h
    · split at h
      · cases h
      · split at h
        · cases h
        · cases h
          simp; omega
def scanN : Nat → Bs → List Bs × Nat
  | 0, _ => ([], 0)
  | f + 1, b => match nextF b with
    | none => ([], 0)
    | some (p, n) => (p :: (scanN f (b.drop n)).1, n + (scanN f (b.drop n)).2)
def scanF (b : Bs) : List Bs × Nat := scanN (b.length + 1) b
theorem scanN_more : ∀ f g b, b.length < f → b.length < g → scanN f b = scanN g b
  | f + 1, g + 1, b, hf, hg => by
    simp only [scanN]
    cases h : nextF b with
    | none => rfl
    | some q =>
      obtain ⟨p, n⟩ := q
      have := nextF_pos h
      simp only
      rw [scanN_more f g (b.drop n) (by rw [List.length_drop]; omega) (by rw [List.length_drop]; omega)]
theorem scanF_none {b : Bs} (h : nextF b = none) : scanF b = ([], 0) := by simp [scanF, scanN, h]
theorem scanF_some {b p : Bs} {n : Nat} (h : nextF b = some (p, n)) : scanF b = (p :: (scanF (b.drop n)).1, n + (scanF (b.drop n)).2) := by
  have := nextF_pos h
  rw [scanF, scanN, h]
  simp only [scanF]
  rw [scanN_more b.length ((b.drop n).length + 1) (b.drop n) (by rw [List.length_drop]; omega) (by omega)]
abbrev okR (p : Bs) : Prop := 0 < p.length ∧ p.length ≤ 16384
def frs (l : List Bs) : Bs := l.flatMap frB
theorem scan_frs : ∀ (l : List Bs) (r : Bs), (∀ p ∈ l, okR p) → scanF (frs l ++ r) = (l ++ (scanF r).1, (frs l).length + (scanF r).2)
  | [], r, _ => by simp [frs]
  | p :: l, r, h => by
    have hp := h p (List.mem_cons_self ..)
    have e : frs (p :: l) ++ r = frB p ++ (frs l ++ r) := by simp [frs]
    have hn := nextF_fr p (frs l ++ r) hp.1 hp.2
    rw [e, scanF_some hn]
    have hd : (frB p ++ (frs l ++ r)).drop (p.length + 6) = frs l ++ r := List.drop_left' (frB_len p)
    rw [hd, scan_frs l r fun q hq => h q (List.mem_cons_of_mem _ hq)]
    simp [frs, frB_len]; omega
theorem scanF_nil : scanF [] = ([], 0) := scanF_none (by simp [nextF])
/-- all frames, nothing behind -/
theorem scan_all (l : List Bs) (h : ∀ p ∈ l, okR p) : scanF (frs l) = (l, (frs l).length) := by
  have := scan_frs l [] h
  rw [scanF_nil, List.append_nil] at this
  simpa using this
end Go.Fw
namespace Go.Fw
open Go.Proofs
variable {m m0 M : Mem} {S : List Nat} {L : List As}
theorem u32_in (x : Int) : IntKind.u32.wrap x = x % 4294967296 := by
  simp [IntKind.wrap, IntKind.signed, IntKind.bits]
theorem rd_u32_xor (a b : Nat) (ha : a < 2 ^ 32) (hb : b < 2 ^ 32) : rd (.ibt .xor) [.int .u32 (a : Int), .int .u32 (b : Int)] m = some (.int .u32 ((a ^^^ b : Nat) : Int)) := by
  show some (Value.int .u32 (IntKind.u32.wrap _)) = _
  congr 2
  have : (BitVec.ofInt IntKind.u32.bits (a : Int) ^^^ BitVec.ofInt IntKind.u32.bits (b : Int)).toNat = a ^^^ b := by
    show (BitVec.ofInt 32 (a : Int) ^^^ BitVec.ofInt 32 (b : Int)).toNat = _
    rw [BitVec.toNat_xor, BitVec.toNat_ofInt, BitVec.toNat_ofInt]
    have h1 : ((a : Int) % ((2 ^ 32 : Nat) : Int)).toNat = a := by omega
    have h2 : ((b : Int) % ((2 ^ 32 : Nat) : Int)).toNat = b := by omega
    rw [h1, h2]
  rw [this, u32_in]
  have := Nat.xor_lt_two_pow ha hb
  omega
theorem rd_u32_xor' (a : Nat) (k : Int) (b : Nat) (hk : k = b) (ha : a < 2 ^ 32) (hb : b < 2 ^ 32) : rd (.ibt .xor) [.int .u32 (a : Int), .int .u32 k] m = some (.int .u32 ((a ^^^ b : Nat) : Int)) := by subst hk; exact rd_u32_xor a b ha hb
theorem rd_u32_cpl (a : Nat) (ha : a < 2 ^ 32) : rd .cpl [.int .u32 (a : Int)] m = some (.int .u32 ((a ^^^ 0xFFFFFFFF : Nat) : Int)) := by
  show some (Value.int .u32 (IntKind.u32.wrap _)) = _
  congr 2
  have : (BitVec.ofInt IntKind.u32.bits (if IntKind.u32.signed then -1 else IntKind.u32.max) ^^^ BitVec.ofInt IntKind.u32.bits (a : Int)).toNat = a ^^^ 0xFFFFFFFF := by
    show (BitVec.ofInt 32 4294967295 ^^^ BitVec.ofInt 32 (a : Int)).toNat = _
    rw [BitVec.toNat_xor, BitVec.toNat_ofInt, BitVec.toNat_ofInt]
    have h1 : ((a : Int) % ((2 ^ 32 : Nat) : Int)).toNat = a := by omega
    have h2 : ((4294967295 : Int) % ((2 ^ 32 : Nat) : Int)).toNat = 0xFFFFFFFF := by decide
    rw [h1, h2, Nat.xor_comm]
  rw [this, u32_in]
  have := Nat.xor_lt_two_pow (n := 32) ha (show 0xFFFFFFFF < 2 ^ 32 by decide)
  omega
theorem rd_u32_and1 (x : Nat) (h : x < 2 ^ 32) : rd (.ibt .and) [.int .u32 (x : Int), .int .u32 1] m = some (.int .u32 ((x % 2 : Nat) : Int)) := by
  show some (Value.int .u32 (IntKind.u32.wrap _)) = _
  congr 2
  have : (BitVec.ofInt IntKind.u32.bits (x : Int) &&& BitVec.ofInt IntKind.u32.bits 1).toNat = x % 2 := by
    show (BitVec.ofInt 32 (x : Int) &&& BitVec.ofInt 32 1).toNat = _
    rw [BitVec.toNat_and, BitVec.toNat_ofInt, BitVec.toNat_ofInt]
    have h1 : ((x : Int) % ((2 ^ 32 : Nat) : Int)).toNat = x := by omega
    have h2 : ((1 : Int) % ((2 ^ 32 : Nat) : Int)).toNat = 2 ^ 1 - 1 := by decide
    rw [h1, h2, Nat.and_two_pow_sub_one_eq_mod]
  rw [this, u32_in]; omega
theorem rd_u32_shr1 (a : Nat) : rd (.ish .shr) [.int .u32 (a : Int), .int .u64 1] m = some (.int .u32 ((a / 2 : Nat) : Int)) := by
  show (if (1 : Int) < 0 then none else some (Value.int .u32 _)) = _
  rw [if_neg (by omega)]
  congr 2
  have : min (1 : Int).toNat IntKind.u32.bits = 1 := by decide
  rw [this, Int.fdiv_eq_ediv_of_nonneg _ (Int.pow_nonneg (by omega))]
  omega
theorem crcN_succ : ∀ n c, crcN (n + 1) c = crcB (crcN n c)
  | 0, c => rfl
  | n + 1, c => crcN_succ n (crcB c)
theorem crcL_snoc (l : Bs) (x : UInt8) (c : Nat) : crcL (l ++ [x]) c = crcX (crcL l c) x := by simp [crcL]
set_option maxHeartbeats 4000000 in
theorem sum_On_s {v : Value} {l : Bs} (hv : RdB m v l) (hl : l.length ≤ 1099511627776) (c : Nat) (hc : c < 2 ^ 32) : MC Tryz.prog n_sum_On [.int .u32 (c : Int), v] m fun u M => u = .int .u32 ((crcL l (c ^^^ 0xFFFFFFFF) ^^^ 0xFFFFFFFF : Nat) : Int) ∧ Fr m M [] := by
  obtain ⟨a, cc, rfl⟩ := hv.form
  refine sum_On_go (by simp [Tryz.f33]) ?_
  have hc1 : c ^^^ 0xFFFFFFFF < 2 ^ 32 := Nat.xor_lt_two_pow hc (by decide)
  simp (disch := omega) only [go_sem, undef, rd_u32_cpl c hc]
  generalize c ^^^ 0xFFFFFFFF = c1 at *
  refine loopQ_intro (fun k E m' => ∃ j, j ≤ l.length ∧ k = l.length - j ∧ E = [(0, .int .u32 ((crcL (l.take j) c1 : Nat) : Int)), (10, .slice a l.length cc), (11, .int .i64 (l.length : Nat)), (12, .int .i64 (j : Nat))] ∧ m' = m) l.length rfl ⟨0, by omega, by omega, rfl, rfl⟩ ?_
  rintro k E M1 ⟨j, hj, rfl, rfl, rfl⟩
  have h1 := crcL_lt (l.take j) hc1
  simp (disch := omega) only [go_sem, undef]
  refine condB_dec (fun hlt => ?_) (fun hlt => ?_)
  · have hlt : j < l.length := by omega
    refine RdS.elK hv hlt (by decide) fun bx o x hx hix hE => ?_
    have hs : crcL (l.take (j + 1)) c1 = crcX (crcL (l.take j) c1) x := by rw [List.take_add_one, hx, Option.toList_some, crcL_snoc]
    generalize crcL (l.take j) c1 = q at *
    have hxl := x.toNat_lt
    have h2 : q ^^^ x.toNat < 2 ^ 32 := Nat.xor_lt_two_pow h1 (by omega)
    have hw : IntKind.u32.wrap ((x.toNat : Nat) : Int) = (x.toNat : Nat) := by rw [u32_in]; omega
    have hX : crcX q x = crcN 8 (q ^^^ x.toNat) := rfl
    simp (disch := omega) only [go_sem, undef, hix, hE.ld0, hw, rd_u32_xor q x.toNat h1 (by omega)]
    generalize q ^^^ x.toNat = d at *
    refine loopQ_intro (fun k E m' => ∃ i, i ≤ 8 ∧ k = 8 - i ∧ E = [(0, .int .u32 ((crcN i d : Nat) : Int)), (10, .slice a l.length cc), (11, .int .i64 (l.length : Nat)), (12, .int .i64 (j : Nat)), (20, .int .i64 (i : Nat))] ∧ m' = M1) 8 rfl ⟨0, by omega, by omega, rfl, rfl⟩ ?_
    rintro k E m' ⟨i, hi, rfl, rfl, rfl⟩
    have h3 := crcN_lt i h2
    simp (disch := omega) only [go_sem, undef]
    refine condB_dec (fun hil => ?_) (fun hil => ?_)
    · have hil : i < 8 := by omega
      have hss := crcN_succ i d
      generalize crcN i d = g at *
      by_cases hodd : g % 2 = 1
      · have hB : crcB g = (g / 2) ^^^ 0xEDB88320 := by unfold crcB; rw [if_pos hodd]
        simp (disch := omega) only [go_sem, undef, rd_u32_and1 g h3, rd_u32_shr1, dec_t (show ((g % 2 : Nat) : Int) = 1 by omega), rd_u32_xor' (g / 2) 3988292384 0xEDB88320 rfl (by omega) (by decide)]
        exact handN_intro (8 - (i + 1)) (by omega) ⟨i + 1, by omega, rfl, by rw [hss, hB] <;> rfl, rfl⟩
      · have hB : crcB g = g / 2 := by unfold crcB; rw [if_neg hodd]
        simp (disch := omega) only [go_sem, undef, rd_u32_and1 g h3, rd_u32_shr1, dec_f (show ¬ ((g % 2 : Nat) : Int) = 1 by omega)]
        exact handN_intro (8 - (i + 1)) (by omega) ⟨i + 1, by omega, rfl, by rw [hss, hB] <;> rfl, rfl⟩
    · have e : i = 8 := by omega
      subst e
      simp (disch := omega) only [go_sem, undef]
      exact handN_intro (l.length - (j + 1)) (by omega) ⟨j + 1, by omega, rfl, by rw [hs, hX] <;> rfl, rfl⟩
  · have e : j = l.length := by omega
    subst e
    rw [List.take_length] at *
    simp (disch := omega) only [go_sem, undef, rd_u32_cpl _ h1]
    exact ⟨rfl, Fr.refl _ _⟩
theorem sum_Of_s {v : Value} {l : Bs} (hv : RdB m v l) (hl : l.length ≤ 1099511627776) : MC Tryz.prog n_sum_Of [v] m fun u M => u = .int .u32 ((crcO l : Nat) : Int) ∧ Fr m M [] := by
  obtain ⟨a, cc, rfl⟩ := hv.form
  refine sum_Of_go (by simp [Tryz.f33]) ?_
  have H := Hq.refl m []
  simp (disch := omega) only [go_sem, undef]
  refine callQ H (sum_On_s hv hl 0 (by decide)) fun M f H => ?_
  simp (disch := omega) only [go_sem, undef]
  refine ⟨?_, H.fr⟩
  rw [Nat.zero_xor]; rfl
theorem le_snoc : ∀ i u, le (i + 1) u = le i u ++ [UInt8.ofNat (u / 256 ^ i % 256)]
  | 0, u => by simp [le]
  | i + 1, u => by
    show UInt8.ofNat (u % 256) :: le (i + 1) (u / 256) = _
    rw [le_snoc i (u / 256), Nat.div_div_eq_div_mul, ← Nat.pow_succ']
    rfl
set_option maxHeartbeats 4000000 in
theorem word_Put_s {v : Value} {l : Bs} (hv : RdB m v l) (hl : l.length ≤ 1099511627776) (n : Nat) (hn : n ≤ 8) (u : Nat) (hu : u < 2 ^ 64) : CN Tryz.prog n_word_Put [v, .int .i64 (n : Int), .int .u64 (u : Int)] m fun w A => A = byA T_uint8 w (l ++ le n u) := by
  obtain ⟨a, c, rfl⟩ := hv.form
  refine word_Put_go (by simp [Tryz.f33]) ?_
  have H := Hq.refl m []
  simp (disch := omega) only [go_sem, undef]
  refine newQ H fun b M f H => ?_
  have H := H.toRow 1 0 (l.length + 8) (by simp; omega) (by omega)
  simp only [Nat.zero_mul, List.take_zero] at H
  have e1 : ((l.length : Int) + 8).toNat = l.length + 8 := by omega
  simp (disch := omega) only [go_sem, undef, e1]
  have hv2 := hv.frame f
  refine appQ0 H (k := l.length) rfl (ldS_of hv2) (by rw [bys_len]; omega) (bys_one l) rfl (by omega) (by omega) fun w M f H => ?_
  have hmm : min (max (n : Int) 0) 8 = (n : Nat) := by omega
  simp (disch := omega) only [go_sem, undef, hmm]
  have ht : (bys l ++ List.nil).take 0 = [] := rfl
  have H : Hq m M [] [byA T_uint8 w (l ++ le 0 u)] := by simpa [le, bys, ownA, byA] using H
  refine loopQ_intro (fun k E m' => ∃ i w2, i ≤ n ∧ k = n - i ∧ E = [(2, .int .u64 ((u / 256 ^ i : Nat) : Int)), (7, w2), (16, .int .i64 (n : Nat)), (17, .int .i64 (i : Nat))] ∧ Hq m m' [] [byA T_uint8 w2 (l ++ le i u)]) n rfl ⟨0, w, by omega, by omega, by rw [Nat.pow_zero, Nat.div_one]; rfl, H⟩ ?_
  clear H hv hv2 f ht hmm
  rintro k E M1 ⟨i, w2, hi, rfl, rfl, H⟩
  simp (disch := omega) only [go_sem, undef]
  have hq : u / 256 ^ i < 18446744073709551616 := Nat.lt_of_le_of_lt (Nat.div_le_self ..) hu
  have hs := le_snoc i u
  have hd : u / 256 ^ (i + 1) = u / 256 ^ i / 2 ^ 8 := by rw [Nat.pow_succ, Nat.div_div_eq_div_mul]
  have hle := le_len i u
  generalize u / 256 ^ i = q at *
  refine condB_dec (fun hlt => ?_) (fun hlt => ?_)
  · simp (disch := omega) only [go_sem, undef, u8_wrap]
    refine newQ H fun b1 M f H => ?_
    simp (disch := omega) only [go_sem, undef]
    refine appQ1 H (k := 1) rfl (ldS_cell (l := [_]) H.cs.1 (by simp)) rfl (by simp [Value.oneCell']) rfl (by simp; omega) (by simp; omega) fun w3 M f H => ?_
    have H := H.tail
    rw [show [Value.int IntKind.u8 ((q % 256 : Nat) : Int)].take (1 * 1) = bys [UInt8.ofNat (q % 256)] from by
      show [Value.int IntKind.u8 _] = [bv _]
      rw [← bv_of _ (by omega)]] at H
    have H : Hq m M [] [byA T_uint8 w3 (l ++ le (i + 1) u)] := by
      rw [hs, ← List.append_assoc, ← byA_app]; exact H
    simp (disch := omega) only [go_sem, undef, rd_u64_shr q 8 8 rfl (by omega)]
    exact handN_intro (n - (i + 1)) (by omega) ⟨i + 1, w3, by omega, rfl, by rw [hd] <;> rfl, H⟩
  · have e : i = n := by omega
    subst e
    simp (disch := omega) only [go_sem, undef]
    exact ⟨_, rfl, H.hs.1, H.fr, fun b hb => (H.done.2.2 b hb).resolve_left (by simp)⟩
end Go.Fw
namespace Go.Fw
open Go.Proofs
variable {m m0 M : Mem} {S : List Nat} {L : List As}
theorem ofLe_app : ∀ (a b : Bs), ofLe (a ++ b) = ofLe a + 256 ^ a.length * ofLe b
  | [], b => by simp [ofLe]
  | c :: r, b => by
    simp only [List.cons_append, ofLe, ofLe_app r b, List.length_cons, Nat.pow_succ]
    rw [Nat.mul_add, Nat.mul_comm (256 ^ r.length) 256, Nat.mul_assoc]; omega
theorem ofLe_lt : ∀ (a : Bs), ofLe a < 256 ^ a.length
  | [] => by simp [ofLe]
  | c :: r => by
    have := ofLe_lt r
    have hc := c.toNat_lt
    simp only [ofLe, List.length_cons, Nat.pow_succ]
    omega
theorem two_mul8 (i : Nat) : 2 ^ (8 * i) = 256 ^ i := by rw [Nat.pow_mul]
set_option maxHeartbeats 4000000 in
theorem word_Get_s {v : Value} {l : Bs} (hv : RdB m v l) (hl : l.length ≤ 1099511627776) (p n : Nat) (hp : p ≤ l.length) (h1 : 1 ≤ n) (hn : n ≤ 8) :
    MC Tryz.prog n_word_Get [v, .int .i64 (p : Int), .int .i64 (n : Int)] m fun u M => u = .tuple #[.int .u64 ((if p + n ≤ l.length then ofLe ((l.drop p).take n) else 0 : Nat) : Int), .int .i64 (if p + n ≤ l.length then 0 else 3)] ∧ Fr m M [] := by
  obtain ⟨a, c, rfl⟩ := hv.form
  refine word_Get_go (by simp [Tryz.f33]) ?_
  simp (disch := omega) only [go_sem, undef, dec_f (show ¬ ((n : Int) < 1) by omega), dec_f (show ¬ ((n : Int) > 8) by omega), dec_f (show ¬ ((p : Int) < 0) by omega), dec_f (show ¬ ((p : Int) > (l.length : Nat)) by omega)]
  by_cases hs : p + n ≤ l.length
  · rw [if_pos hs, if_pos hs]
    refine Exists.elim (hv.cut (by omega) p (p + n) (by omega) hs) fun a' hh => Exists.elim hh fun c' hcr => ?_
    have hcut := hcr.1
    have hr := hcr.2.1
    clear hcr hh
    have e1 : (l.take (p + n)).drop p = (l.drop p).take n := by rw [List.drop_take]; congr 1; omega
    rw [e1] at hr
    have e2 : ((l.drop p).take n).length = n := by simp; omega
    rw [show p + n - p = n from by omega] at hcut hr
    generalize (l.drop p).take n = q at *
    rw [Int.natCast_add] at hcut
    simp (disch := omega) only [go_sem, undef, dec_f (show ¬ ((l.length : Nat) - (p : Int) < (n : Nat)) by omega), rd_slc11, hcut]
    subst e2
    refine loopQ_intro (fun k E m' => ∃ i, i ≤ q.length ∧ k = q.length - i ∧ E = [(8, .int .u64 ((ofLe (q.take i) : Nat) : Int)), (38, .slice a' q.length c'), (39, .int .i64 (q.length : Nat)), (40, .int .i64 (i : Nat))] ∧ m' = m) q.length rfl ⟨0, by omega, by omega, rfl, rfl⟩ ?_
    rintro k E M1 ⟨i, hi, rfl, rfl, rfl⟩
    simp (disch := omega) only [go_sem, undef]
    refine condB_dec (fun hlt => ?_) (fun hlt => ?_)
    · have hlt : i < q.length := by omega
      refine RdS.elK hr hlt (by decide) fun bx o x hx hix hE => ?_
      have ht : (q.take i).length = i := by simp; omega
      have hsn : ofLe (q.take (i + 1)) = ofLe (q.take i) + x.toNat * 2 ^ (8 * i) := by
        rw [List.take_add_one, hx, Option.toList_some, ofLe_app, ht, two_mul8, Nat.mul_comm]; simp [ofLe]
      have hlt2 : ofLe (q.take i) < 2 ^ (8 * i) := by rw [two_mul8]; have := ofLe_lt (q.take i); rwa [ht] at this
      have hxl := x.toNat_lt
      have hbd : x.toNat * 2 ^ (8 * i) + 2 ^ (8 * i) ≤ 2 ^ 64 := by
        have h1 : (2 : Nat) ^ (8 * i) ≤ 2 ^ 56 := Nat.pow_le_pow_right (by omega) (by omega)
        have h2 : (x.toNat + 1) * 2 ^ (8 * i) ≤ 256 * 2 ^ 56 := Nat.mul_le_mul (by omega) h1
        rw [Nat.add_mul, Nat.one_mul] at h2
        exact h2
      generalize ofLe (q.take i) = g at *
      simp (disch := omega) only [go_sem, undef, hix, hE.ld0, u64_in, show (8 : Int) * (i : Nat) = ((8 * i : Nat) : Int) from by omega, rd_u64_shl x.toNat (8 * i) (by omega) (by omega), rd_u64_or (8 * i) g (x.toNat * 2 ^ (8 * i)) hlt2 (Nat.mul_mod_left _ _) (by omega)]
      exact handN_intro (q.length - (i + 1)) (by omega) ⟨i + 1, by omega, rfl, by rw [hsn] <;> rfl, rfl⟩
    · have e : i = q.length := by omega
      subst e
      rw [List.take_length]
      simp (disch := omega) only [go_sem, undef]
      exact ⟨rfl, Fr.refl _ _⟩
  · rw [if_neg hs, if_neg hs]
    simp (disch := omega) only [go_sem, undef, dec_t (show ((l.length : Nat) - (p : Int) < (n : Nat)) by omega)]
    exact ⟨rfl, Fr.refl _ _⟩
end Go.Fw
namespace Go.Fw
open Go.Proofs
variable {m m0 M : Mem} {S : List Nat} {L : List As}
inductive F2 {α β : Type} (R : α → β → Prop) : List α → List β → Prop
  | nil : F2 R [] []
  | cons {x : α} {y : β} {l : List α} {r : List β} : R x y → F2 R l r → F2 R (x :: l) (y :: r)
instance (priority := 10) {L : List As} : CellF L [] := ⟨fun _ _ => trivial⟩
/-! rows of rows of bytes -/
def v1 (v : Value) : List Value := [v]
theorem v1_len (v : Value) : (v1 v).length = 1 := rfl
theorem v1_0 (v : Value) : (v1 v)[0]? = some v := rfl
attribute [go_sem] v1_0
theorem F2_mem {α β : Type} {R : α → β → Prop} {Q : α → Prop} {l : List α} {r : List β} (h : F2 (fun x y => R x y ∧ Q x) l r) : ∀ x ∈ l, Q x := by
  induction h with
  | nil => simp
  | cons h1 _ ih =>
    intro x hx
    rcases List.mem_cons.1 hx with rfl | hx
    · exact h1.2
    · exact ih x hx
def brA (T : TypeId) (w : Value) (vs : List Value) (ls : List (List UInt8)) : As where
  fp := blkOf w ++ vs.flatMap blkOf
  wp := blkOf w ++ vs.flatMap blkOf
  sub _ h := h
  p m := Own m T 1 w vs.length (vs.flatMap v1) ∧ F2 (fun v l => RdB m v l ∧ ∀ b ∈ blkOf v, m b ≠ none) vs ls ∧ ∀ v ∈ vs, ∀ b ∈ blkOf v, b ∉ blkOf w
  st h e := ⟨h.1.st fun b hb => e b (List.mem_append_left _ hb), by
    have h2 := h.2.1
    have e2 : ∀ v ∈ vs, ∀ b ∈ blkOf v, _ := fun v hv b hb => e b (List.mem_append_right _ (List.mem_flatMap.2 ⟨v, hv, hb⟩))
    clear h e
    induction h2 with
    | nil => exact .nil
    | cons h1 _ ih => exact .cons ⟨h1.1.st fun b hb => e2 _ (List.mem_cons_self ..) b hb, fun b hb => by rw [e2 _ (List.mem_cons_self ..) b hb]; exact h1.2 b hb⟩ (ih fun v hv => e2 v (List.mem_cons_of_mem _ hv)), h.2.2⟩
  th h b hb := by
    rcases List.mem_append.1 hb with hb | hb
    · exact h.1.there b hb
    · obtain ⟨v, hv, hb2⟩ := List.mem_flatMap.1 hb
      exact F2_mem h.2.1 v hv b hb2
theorem F2_len {α β : Type} {R : α → β → Prop} {l : List α} {r : List β} (h : F2 R l r) : l.length = r.length := by
  induction h with
  | nil => rfl
  | cons _ _ ih => simp [ih]
theorem F2_get {α β : Type} {R : α → β → Prop} {l : List α} {r : List β} (h : F2 R l r) : ∀ {i : Nat} {x : α} {y : β}, l[i]? = some x → r[i]? = some y → R x y := by
  induction h with
  | nil => intro i x y hx; simp at hx
  | cons h1 _ ih =>
    intro i x y hx hy
    cases i with
    | zero => simp at hx hy; subst hx hy; exact h1
    | succ i => exact ih (by simpa using hx) (by simpa using hy)
theorem F2_snoc {α β : Type} {R : α → β → Prop} {l : List α} {r : List β} (h : F2 R l r) {x : α} {y : β} (hx : R x y) : F2 R (l ++ [x]) (r ++ [y]) := by
  induction h with
  | nil => exact .cons hx .nil
  | cons h1 _ ih => exact .cons h1 ih
theorem F2_imp {α β : Type} {R R' : α → β → Prop} {l : List α} {r : List β} (h : F2 R l r) (k : ∀ x ∈ l, ∀ y, R x y → R' x y) : F2 R' l r := by
  induction h with
  | nil => exact .nil
  | cons h1 _ ih => exact .cons (k _ (List.mem_cons_self ..) _ h1) (ih fun x hx => k x (List.mem_cons_of_mem _ hx))
theorem brA_at {T : TypeId} {w : Value} {vs : List Value} {ls : List (List UInt8)} (h : (brA T w vs ls).p m) {i : Nat} {v : Value} {l : List UInt8} (hv : vs[i]? = some v) (hl : ls[i]? = some l) : RdB m v l := (F2_get h.2.1 hv hl).1
theorem brA_len {T : TypeId} {w : Value} {vs : List Value} {ls : List (List UInt8)} (h : (brA T w vs ls).p m) : vs.length = ls.length := F2_len h.2.1
theorem brA_rds {T : TypeId} {w : Value} {vs : List Value} {ls : List (List UInt8)} (h : (brA T w vs ls).p m) : RdS 1 v1 m w vs := Own.rds (by decide) v1_len h.1
/-- a row of one's own comes behind the others -/
theorem app_br {P : Program} {T bt : TypeId} {w v y : Value} {vs : List Value} {ls : List (List UInt8)} {l : List UInt8} {K : Value → Mem → Prop} {lk : Lk K} {l1 : Lk w} {l2 : Lk m} {b c : Nat}
    (H : Hq m0 m S (cellA b (.cells [v].toArray T (0, 0)) :: byA bt v l :: brA T w vs ls :: L)) (hy : y = .slice (some ⟨b, 0, none⟩) 1 c) (hv1 : v.oneCell' = true) (hn : vs.length < 1000000000)
    (hK : ∀ w' M, Hq m0 M S (brA T w' (vs ++ [v]) (ls ++ [l]) :: L) → K w' M) : appQ P T 1 24 [.slice none 0 0] w y m K lk l1 l2 := by
  have hcb : m b = some (.cells [v].toArray T (0, 0)) := H.cs.1
  have H2 := H.tail
  have hbr := H2.at 1 rfl
  have hby := H2.at 0 rfl
  have hap : Apart (byA bt v l) (brA T w vs ls) := (List.pairwise_cons.1 H2.dj).1 _ (List.mem_cons_self ..)
  refine app_own (k := 1) (news := [v]) hbr.1 hy (by simpa using ldS_cell hcb (n := 1) (by simp)) rfl (by simpa using hv1) rfl (by omega) (by omega) fun w' M ho f hblk => hK w' M ?_
  refine H2.join.rep0 (A' := brA T w' (vs ++ [v]) (ls ++ [l])) ⟨?_, ?_, ?_⟩ (f.sub fun x hx => List.mem_append_right _ (List.mem_append_left _ hx)) ?_ ?_
  · rw [List.length_append, List.flatMap_append]; exact ho
  · refine F2_snoc (F2_imp hbr.2.1 fun x hx y hxy => ?_) ⟨?_, ?_⟩
    · have hne : ∀ b ∈ blkOf x, M b = m b := fun b hb => f b (hxy.2 b hb) (hbr.2.2 x hx b hb)
      exact ⟨hxy.1.st hne, fun b hb => by rw [hne b hb]; exact hxy.2 b hb⟩
    · exact (byA_rd hby).st fun b hb => f b (hby.there b hb) fun h => hap.1 b hb (List.mem_append_left _ h)
    · intro b hb
      rw [f b (hby.there b hb) fun h => hap.1 b hb (List.mem_append_left _ h)]; exact hby.there b hb
  · intro x hx b hb hw
    rcases List.mem_append.1 hx with hx | hx
    · rcases hblk b hw with h | h
      · exact hbr.2.2 x hx b hb h
      · exact (brA T w vs ls).th hbr b (List.mem_append_right _ (List.mem_flatMap.2 ⟨x, hx, hb⟩)) h
    · simp only [List.mem_singleton] at hx; subst hx
      rcases hblk b hw with h | h
      · exact hap.1 b hb (List.mem_append_left _ h)
      · exact hby.there b hb h
  all_goals
    intro b hb
    rcases List.mem_append.1 hb with hb | hb
    · rcases hblk b hb with h | h
      · exact .inl (List.mem_append_right _ (List.mem_append_left _ h))
      · exact .inr h
    · rw [List.flatMap_append] at hb
      rcases List.mem_append.1 hb with hb | hb
      · exact .inl (List.mem_append_right _ (List.mem_append_right _ hb))
      · exact .inl (List.mem_append_left _ (by simpa using hb))
theorem Hq.nilBr (H : Hq m0 m S L) (T : TypeId) : Hq m0 m S (brA T (.slice none 0 0) [] [] :: L) :=
  H.add (A := brA T (.slice none 0 0) [] []) ⟨Own.nil _ _ _, .nil, by simp⟩ (Fr.refl _ _) (by simp [brA, blkOf])
end Go.Fw
namespace Go.Fw
open Go.Proofs
variable {m m0 M : Mem} {S : List Nat} {L : List As}
instance (p : Bs) : Decidable (okR p) := inferInstanceAs (Decidable (0 < p.length ∧ p.length ≤ 16384))
def frO (p : Bs) : Bs := if okR p then frB p else []
theorem bytes_nil : RdB m (.slice none 0 0) [] := RdS.nil bc_len m
theorem RdB.end {v : Value} {l : Bs} (h : RdB m v l) : ∃ a c, v = .slice a l.length c ∧ ldS m a l.length = some (bys l) := by
  obtain ⟨a, c, rfl⟩ := h.form
  exact ⟨a, c, rfl, by have := ldS_of h; rwa [Nat.mul_one] at this⟩
set_option maxHeartbeats 4000000 in
theorem frame_Put_s {v u : Value} {l p : Bs} (hv : RdB m v l) (hu : RdB m u p) (hl : l.length ≤ 549755813888) (hp : p.length ≤ 549755813888) : CN Tryz.prog n_frame_Put [v, u] m fun w A => A = byA T_uint8 w (l ++ frO p) := by
  obtain ⟨a, c, rfl⟩ := hv.form
  obtain ⟨a2, c2, rfl⟩ := hu.form
  refine frame_Put_go (by simp [Tryz.f33]) ?_
  have H := Hq.refl m []
  simp (disch := omega) only [go_sem, undef]
  refine newQ H fun b M f H => ?_
  have H := H.toRow 1 0 (l.length + 2 + p.length + 4) (by simp; omega) (by omega)
  simp only [Nat.zero_mul, List.take_zero] at H
  have e1 : ((l.length : Int) + 2 + (p.length : Int) + 4).toNat = l.length + 2 + p.length + 4 := by omega
  simp (disch := omega) only [go_sem, undef, e1]
  refine appQ0 H (k := l.length) rfl (ldS_of (hv.frame f)) (by rw [bys_len]; omega) (bys_one l) rfl (by omega) (by omega) fun w M2 f2 H => ?_
  have H : Hq m M2 [] [byA T_uint8 w l] := by simpa [bys, ownA, byA] using H
  have hu2 := hu.frame H.fr
  clear f f2
  by_cases h0 : okR p
  · have hpl := h0.1
    have hpu := h0.2
    simp (disch := omega) only [go_sem, undef, dec_f (show ¬ ((p.length : Int) = 0) by omega), dec_f (show ¬ ((p.length : Int) > 16384) by omega), u64_in]
    refine callN H (word_Put_s bytes_nil (by simp) 2 (by omega) p.length (by omega)) fun w2 M A' eA f H => ?_
    subst eA
    simp (disch := omega) only [go_sem, undef]
    refine appQ0 H (k := p.length) rfl (ldS_of (hu2.frame f)) (by rw [bys_len]; omega) (bys_one p) rfl (by simp [le_len]; omega) (by simp [le_len]; omega) fun w3 M f3 H => ?_
    have H : Hq m M [] [byA T_uint8 w3 (hdB p), byA T_uint8 w l] := by
      rw [List.nil_append] at H
      rw [hdB, ← byA_app]; exact H
    clear f f3 hu2
    simp (disch := omega) only [go_sem, undef]
    have hh := hdB_len p
    have hd := byA_rd (H.at 0 rfl)
    refine Exists.elim hd.end fun a3 hx => Exists.elim hx fun c3 hx => ?_
    obtain ⟨e3, hld⟩ := hx
    refine appQ1 H (k := (hdB p).length) e3 (by rw [Nat.mul_one]; exact hld) (by rw [bys_len]; omega) (bys_one _) rfl (by omega) (by omega) fun w4 M2 f4 H => ?_
    have H : Hq m M2 [] [byA T_uint8 w3 (hdB p), byA T_uint8 w4 (l ++ hdB p)] := by
      rw [← byA_app (l := l)]; exact H
    clear hd hx hld f4
    simp (disch := omega) only [go_sem, undef]
    refine callQ H (sum_Of_s (byA_rd (H.at 0 rfl)) (by omega)) fun M3 f H => ?_
    have hcr := crcO_lt (hdB p)
    simp (disch := omega) only [go_sem, undef, u64_in]
    refine callN H (word_Put_s bytes_nil (by simp) 4 (by omega) (crcO (hdB p)) (by omega)) fun w5 M4 A' eA f H => ?_
    subst eA
    rw [List.nil_append] at H
    simp (disch := omega) only [go_sem, undef]
    have hd := byA_rd (H.at 0 rfl)
    have hl4 := le_len 4 (crcO (hdB p))
    refine Exists.elim hd.end fun a3 hx => Exists.elim hx fun c3 hx => ?_
    obtain ⟨e3, hld⟩ := hx
    refine appQ2 H (k := (le 4 (crcO (hdB p))).length) e3 (by rw [Nat.mul_one]; exact hld) (by rw [bys_len]; omega) (bys_one _) rfl (by rw [List.length_append]; omega) (by rw [List.length_append]; omega) fun w6 M5 f4 H => ?_
    have H := H.tail.tail
    simp (disch := omega) only [go_sem, undef]
    refine ⟨_, rfl, ?_, H.fr, fun b hb => (H.done.2.2 b hb).resolve_left (by simp)⟩
    have h := H.hs.1
    rw [frO, if_pos h0, frB, ← List.append_assoc, ← byA_app (l := l ++ hdB p)]
    exact h
  · have e : frO p = [] := if_neg h0
    rw [e, List.append_nil]
    by_cases hz : p.length = 0
    · simp (disch := omega) only [go_sem, undef, dec_t (show ((p.length : Int) = 0) by omega)]
      exact ⟨_, rfl, H.hs.1, H.fr, fun b hb => (H.done.2.2 b hb).resolve_left (by simp)⟩
    · have : 16384 < p.length := by
        have h0 : ¬ (0 < p.length ∧ p.length ≤ 16384) := h0
        omega
      simp (disch := omega) only [go_sem, undef, dec_f (show ¬ ((p.length : Int) = 0) by omega), dec_t (show ((p.length : Int) > 16384) by omega)]
      exact ⟨_, rfl, H.hs.1, H.fr, fun b hb => (H.done.2.2 b hb).resolve_left (by simp)⟩
end Go.Fw
namespace Go.Fw
open Go.Proofs
variable {m m0 M : Mem} {S : List Nat} {L : List As}
/-- what Next answers -/
def NxR (r : Bs) (p : Nat) (u : Value) (A : As) : Prop := ∃ w q n e, u = .tuple #[w, .int .i64 n, .int .i64 e] ∧ A = byA T_uint8 w q ∧ ((nextF r = none ∧ e ≠ 0 ∧ q = []) ∨ ∃ n', nextF r = some (q, n') ∧ n = ((p + n' : Nat) : Int) ∧ e = 0)
theorem nx_none {r : Bs} {p : Nat} (e : Int) (h : nextF r = none) (he : e ≠ 0) (f : Fr m0 m []) : ∃ A', NxR r p (.tuple #[.slice none 0 0, .int .i64 0, .int .i64 e]) A' ∧ A'.p m ∧ Fr m0 m [] ∧ ∀ b ∈ A'.fp, m0 b = none :=
  ⟨_, ⟨_, _, _, _, rfl, rfl, .inl ⟨h, he, rfl⟩⟩, Own.nil _ _ _, f, by simp [byA, ownA, blkOf]⟩
theorem nextF_eq (b : Bs) : nextF b = if b.length < 2 then none
  else if ofLe (b.take 2) = 0 ∨ 16384 < ofLe (b.take 2) then none
  else if b.length < 2 + ofLe (b.take 2) + 4 then none
  else if ofLe ((b.drop (2 + ofLe (b.take 2))).take 4) ≠ crcO (b.take (2 + ofLe (b.take 2))) then none
  else some ((b.drop 2).take (ofLe (b.take 2)), 2 + ofLe (b.take 2) + 4) := rfl
set_option maxHeartbeats 4000000 in
theorem frame_Next_s {v : Value} {l : Bs} (hv : RdB m v l) (hl : l.length ≤ 549755813888) (p : Nat) (hp : p ≤ l.length) : CN Tryz.prog n_frame_Next [v, .int .i64 (p : Int)] m (NxR (l.drop p) p) := by
  obtain ⟨a, c, rfl⟩ := hv.form
  refine Exists.elim (hv.cut (by omega) p l.length hp (Nat.le_refl _)) fun a' hh => Exists.elim hh fun c' hcr => ?_
  have hcut := hcr.1
  have hr := hcr.2.1
  clear hcr hh
  rw [List.take_length] at hr
  have hrl : (l.drop p).length = l.length - p := List.length_drop ..
  rw [← hrl] at hr hcut
  generalize l.drop p = r at *
  have hnx := nextF_eq r
  have hlt := ofLe_lt (r.take 2)
  generalize hn : ofLe (r.take 2) = n at *
  have hlt4 := ofLe_lt ((r.drop (2 + n)).take 4)
  have hcr := crcO_lt (r.take (2 + n))
  generalize hk1 : crcO (r.take (2 + n)) = k1 at *
  generalize hk2 : ofLe ((r.drop (2 + n)).take 4) = k2 at *
  refine frame_Next_go (by simp [Tryz.f33]) ?_
  have H := Hq.refl m []
  simp (disch := omega) only [go_sem, undef, dec_f (show ¬ ((p : Int) < 0) by omega), dec_f (show ¬ ((p : Int) > (l.length : Nat)) by omega), rd_slc10, hcut]
  have hg := word_Get_s hr (by omega) 0 2 (by omega) (by omega) (by omega)
  rw [List.drop_zero, hn] at hg
  by_cases h2 : r.length < 2
  · rw [if_neg (by omega), if_neg (by omega)] at hg
    rw [if_pos h2] at hnx
    refine callQ H hg fun M f H => ?_
    simp (disch := omega) only [go_sem, undef]
    exact nx_none 3 hnx (by decide) H.fr
  rw [if_pos (by omega), if_pos (by omega)] at hg
  rw [if_neg h2] at hnx
  rw [List.length_take, show min 2 r.length = 2 from by omega] at hlt
  refine callQ H hg fun M f H => ?_
  have hr := hr.frame f
  clear hg f
  simp (disch := omega) only [go_sem, undef, wrap_i64 (n := ((n : Nat) : Int)) (by omega) (by omega)]
  by_cases h3 : n = 0 ∨ 16384 < n
  · rw [if_pos h3] at hnx
    by_cases h4 : n = 0
    · simp (disch := omega) only [go_sem, undef, dec_t (show ((n : Nat) : Int) = 0 by omega)]
      exact nx_none 4 hnx (by decide) H.fr
    · simp (disch := omega) only [go_sem, undef, dec_f (show ¬ ((n : Nat) : Int) = 0 by omega), dec_t (show ((n : Nat) : Int) > 16384 by omega)]
      exact nx_none 4 hnx (by decide) H.fr
  rw [if_neg h3] at hnx
  simp (disch := omega) only [go_sem, undef, dec_f (show ¬ ((n : Nat) : Int) = 0 by omega), dec_f (show ¬ ((n : Nat) : Int) > 16384 by omega)]
  have e2n : ((2 + n : Nat) : Int) = 2 + (n : Int) := by omega
  by_cases h5 : r.length < 2 + n + 4
  · rw [if_pos h5] at hnx
    simp (disch := omega) only [go_sem, undef, dec_t (show ((r.length : Nat) : Int) < 2 + (n : Nat) + 4 by omega)]
    exact nx_none 3 hnx (by decide) H.fr
  rw [if_neg h5] at hnx
  simp (disch := omega) only [go_sem, undef, dec_f (show ¬ ((r.length : Nat) : Int) < 2 + (n : Nat) + 4 by omega), show (2 : Int) + (n : Nat) = ((2 + n : Nat) : Int) from by omega]
  have hg := word_Get_s hr (by omega) (2 + n) 4 (by omega) (by omega) (by omega)
  rw [if_pos (by omega), if_pos (by omega), hk2] at hg
  refine callQ H hg fun M2 f H => ?_
  have hr := hr.frame f
  clear hg f
  refine Exists.elim (hr.cut (by omega) 0 (2 + n) (by omega) (by omega)) fun a3 hh => Exists.elim hh fun c3 hcr => ?_
  have hcut3 := hcr.1
  have hr3 := hcr.2.1
  clear hcr hh
  rw [List.drop_zero] at hr3
  have hl3 : (r.take (2 + n)).length = 2 + n := by simp; omega
  rw [Nat.sub_zero] at hcut3 hr3
  rw [Int.natCast_zero, e2n] at hcut3
  simp (disch := omega) only [go_sem, undef, rd_slc01, hcut3]
  have hg := sum_Of_s hr3 (by omega)
  rw [hk1] at hg
  refine callQ H hg fun M3 f H => ?_
  have hr := hr.frame f
  rw [List.length_take, List.length_drop, show min 4 (r.length - (2 + n)) = 4 from by omega] at hlt4
  clear hr3 f
  simp (disch := omega) only [go_sem, undef, u64_in]
  by_cases h6 : k2 = k1
  · rw [if_neg (by simpa using h6)] at hnx
    refine Exists.elim (hr.cut (by omega) 2 (2 + n) (by omega) (by omega)) fun a4 hh => Exists.elim hh fun c4 hcr => ?_
    have hcut4 := hcr.1
    have hr4 := hcr.2.1
    clear hcr hh
    have e1 : (r.take (2 + n)).drop 2 = (r.drop 2).take n := by rw [List.drop_take]; congr 1; omega
    rw [e1] at hr4
    have e2 : ((r.drop 2).take n).length = n := by simp; omega
    rw [show 2 + n - 2 = n from by omega] at hcut4 hr4
    rw [e2n, show ((2 : Nat) : Int) = 2 from rfl] at hcut4
    generalize (r.drop 2).take n = q at hnx hr4 e2 hcut4
    simp (disch := omega) only [go_sem, undef, dec_f (show ¬ (((k2 : Nat) : Int) ≠ ((k1 : Nat) : Int)) by omega), rd_slc11, hcut4]
    subst e2
    have H := H.nilRow 5 1
    refine appQ0 (bytes := 1) (zero := [.int .u8 0]) H (k := q.length) rfl (ldS_of hr4) (by rw [bys_len]; omega) (bys_one q) rfl (by omega) (by omega) fun w M f H => ?_
    have H : Hq m M [] [byA T_uint8 w q] := by simpa [bys, ownA, byA] using H
    simp (disch := omega) only [go_sem, undef]
    exact ⟨_, ⟨_, _, _, _, rfl, rfl, .inr ⟨_, hnx, by omega, rfl⟩⟩, H.hs.1, H.fr, fun b hb => (H.done.2.2 b hb).resolve_left (by simp)⟩
  · rw [if_pos h6] at hnx
    simp (disch := omega) only [go_sem, undef, dec_t (show (((k2 : Nat) : Int) ≠ ((k1 : Nat) : Int)) by omega)]
    exact nx_none 6 hnx (by decide) H.fr
end Go.Fw
namespace Go.Fw
open Go.Proofs
variable {m m0 M : Mem} {S : List Nat} {L : List As}
theorem scanN_le : ∀ f b, (scanN f b).1.length ≤ b.length ∧ (scanN f b).2 ≤ b.length
  | 0, b => by simp [scanN]
  | f + 1, b => by
    unfold scanN
    cases h : nextF b with
    | none => simp
    | some q =>
      obtain ⟨p, n⟩ := q
      have := nextF_pos h
      have h2 := scanN_le f (b.drop n)
      rw [List.length_drop] at h2
      simp only [List.length_cons]; omega
theorem nextF_len {b p : Bs} {n : Nat} (h : nextF b = some (p, n)) : okR p := by
  rw [nextF_eq] at h
  split at h
  · cases h
  split at h
  · cases h
  split at h
  · cases h
  split at h
  · cases h
  cases h
  simp only [okR, List.length_take, List.length_drop]; omega
set_option maxHeartbeats 4000000 in
theorem frame_Scan_s {v : Value} {l : Bs} (hv : RdB m v l) (hl : l.length ≤ 500000000) : CN Tryz.prog n_frame_Scan [v] m fun u A => ∃ w vs, u = .tuple #[w, .int .i64 (((scanF l).2 : Nat) : Int)] ∧ A = brA 37 w vs (scanF l).1 := by
  obtain ⟨a, c, rfl⟩ := hv.form
  refine frame_Scan_go (by simp [Tryz.f33]) ?_
  have H := (Hq.refl m []).nilBr 37
  simp (disch := omega) only [go_sem, undef]
  refine loopQ_intro (fun k E m' => ∃ p w vs ls, p ≤ l.length ∧ k = l.length - p ∧ E = [(0, .slice a l.length c), (4, w), (5, .int .i64 (p : Nat))] ∧ scanF l = (ls ++ (scanF (l.drop p)).1, p + (scanF (l.drop p)).2) ∧ ls.length ≤ p ∧ Hq m m' [] [brA 37 w vs ls]) l.length rfl ⟨0, _, _, _, by omega, by omega, rfl, by simp, by simp, H⟩ ?_
  clear H
  rintro k E M1 ⟨p, w, vs, ls, hp, rfl, rfl, hs, hls, H⟩
  simp (disch := omega) only [go_sem, undef]
  refine callN H (frame_Next_s (hv.frame H.fr) (by omega) p hp) fun u M A' hR f H => ?_
  obtain ⟨w2, q, n, e, rfl, rfl, hR⟩ := hR
  rcases hR with ⟨hn, he, rfl⟩ | ⟨n', hn, rfl, rfl⟩
  · rw [scanF_none hn, List.append_nil, Nat.add_zero] at hs
    have H := H.tail
    simp (disch := omega) only [go_sem, undef, dec_t (show e ≠ 0 from he)]
    rw [hs]
    exact ⟨_, ⟨_, _, rfl, rfl⟩, H.hs.1, H.fr, fun b hb => (H.done.2.2 b hb).resolve_left (by simp)⟩
  · have hpos := nextF_pos hn
    rw [List.length_drop] at hpos
    rw [scanF_some hn, List.drop_drop] at hs
    have hvl := brA_len (H.at 1 rfl)
    refine Own.formK (H.at 0 rfl) fun a2 c2 e2 => ?_
    subst e2
    simp (disch := omega) only [go_sem, undef]
    refine newQ H fun b1 M2 f2 H => ?_
    simp (disch := omega) only [go_sem, undef]
    refine app_br H rfl rfl (by omega) fun w' M3 H => ?_
    simp (disch := omega) only [go_sem, undef]
    exact handN_intro (l.length - (p + n')) (by omega) ⟨p + n', w', _, ls ++ [q], by omega, rfl, rfl, by rw [hs]; simp; omega, by simp; omega, H⟩
end Go.Fw
