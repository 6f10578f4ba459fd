import Derived.Test.YtadkdbnikmkgfaaFxSl
/-! Bytes and numbers of 64 bits. -/
set_option linter.unusedVariables false
namespace Go.Fw
open Go
abbrev bv (x : UInt8) : Value := .int .u8 (x.toNat : Int)
def bc (x : UInt8) : List Value := [bv x]
abbrev bys (l : List UInt8) : List Value := l.flatMap bc
theorem bc_len (x : UInt8) : (bc x).length = 1 := rfl
theorem bys_map (l : List UInt8) : bys l = l.map bv := by
  induction l with
  | nil => rfl
  | cons x r ih => simp only [bys, List.flatMap_cons, List.map_cons] at *; rw [ih]; rfl
theorem bys_len (l : List UInt8) : (bys l).length = l.length := by rw [bys_map, List.length_map]
theorem bys_one (l : List UInt8) : ∀ v ∈ bys l, v.oneCell' = true := by
  intro v hv
  rw [bys_map] at hv
  obtain ⟨x, _, rfl⟩ := List.mem_map.1 hv
  rfl
theorem bys_app (l r : List UInt8) : bys (l ++ r) = bys l ++ bys r := by simp [bys]
theorem bytesIn_bys (l : List UInt8) : bytesIn (bys l) = some l := by
  rw [bys_map]
  induction l with
  | nil => rfl
  | cons x r ih => simp only [List.map_cons, bytesIn, ih, Option.map_some, Int.toNat_natCast, UInt8.ofNat_toNat]

theorem rd_u8_and {m : Mem} (x : Nat) (h : x < 256) : rd (.ibt .and) [.int .u8 (x : Int), .int .u8 127] m = some (.int .u8 ((x % 128 : Nat) : Int)) := by
  show some (Value.int .u8 (IntKind.u8.wrap _)) = _
  congr 2
  have : (BitVec.ofInt IntKind.u8.bits (x : Int) &&& BitVec.ofInt IntKind.u8.bits 127).toNat = x % 128 := by
    show (BitVec.ofInt 8 (x : Int) &&& BitVec.ofInt 8 127).toNat = _
    rw [BitVec.toNat_and, BitVec.toNat_ofInt, BitVec.toNat_ofInt]
    have h1 : ((x : Int) % ((2 ^ 8 : Nat) : Int)).toNat = x := by omega
    have h2 : ((127 : Int) % ((2 ^ 8 : Nat) : Int)).toNat = 2 ^ 7 - 1 := by decide
    rw [h1, h2, Nat.and_two_pow_sub_one_eq_mod]
  rw [this, IntWalk.u8_in]; omega
theorem u64_in (n : Int) (h : 0 ≤ n ∧ n ≤ 18446744073709551615) : IntKind.u64.wrap n = n := by
  simp [IntKind.wrap, IntKind.bits, IntKind.signed]; omega
theorem rd_u64_or {m : Mem} (k u w : Nat) (hu : u < 2 ^ k) (hw : w % 2 ^ k = 0) (h : u + w < 2 ^ 64) : rd (.ibt .or) [.int .u64 (u : Int), .int .u64 (w : Int)] m = some (.int .u64 ((u + w : Nat) : Int)) := by
  show some (Value.int .u64 (IntKind.u64.wrap _)) = _
  congr 2
  have : (BitVec.ofInt IntKind.u64.bits (u : Int) ||| BitVec.ofInt IntKind.u64.bits (w : Int)).toNat = u + w := by
    show (BitVec.ofInt 64 (u : Int) ||| BitVec.ofInt 64 (w : Int)).toNat = _
    rw [BitVec.toNat_or, BitVec.toNat_ofInt, BitVec.toNat_ofInt]
    have h1 : ((u : Int) % ((2 ^ 64 : Nat) : Int)).toNat = u := by omega
    have h2 : ((w : Int) % ((2 ^ 64 : Nat) : Int)).toNat = w := by omega
    rw [h1, h2]
    obtain ⟨q, rfl⟩ := Nat.dvd_of_mod_eq_zero hw
    rw [Nat.add_comm, Nat.two_pow_add_eq_or_of_lt hu, Nat.or_comm]
  rw [this, u64_in]; omega
theorem rd_u64_shl {m : Mem} (a b : Nat) (hb : b ≤ 64) (h : a * 2 ^ b < 2 ^ 64) : rd (.ish .shl) [.int .u64 (a : Int), .int .u64 (b : Int)] m = some (.int .u64 ((a * 2 ^ b : Nat) : Int)) := by
  show (if (b : Int) < 0 then none else some (Value.int .u64 (IntKind.u64.wrap _))) = _
  rw [if_neg (by omega)]
  congr 2
  have : min (b : Int).toNat IntKind.u64.bits = b := by show min _ 64 = _; omega
  rw [this]
  have h1 : ((a * 2 ^ b : Nat) : Int) = (a : Int) * 2 ^ b := by push_cast; rfl
  rw [← h1, u64_in]; omega
theorem rd_u64_shl' {m : Mem} (a : Nat) (kd : IntKind) (k : Int) (b : Nat) (hk : k = b) (hb : b ≤ 64) (h : a * 2 ^ b < 2 ^ 64) : rd (.ish .shl) [.int .u64 (a : Int), .int kd k] m = some (.int .u64 ((a * 2 ^ b : Nat) : Int)) := by
  subst hk; exact rd_u64_shl (m := m) a b hb h
theorem rd_u64_shr {m : Mem} (a : Nat) (k : Int) (b : Nat) (hk : k = b) (hb : b ≤ 64) : rd (.ish .shr) [.int .u64 (a : Int), .int .u64 k] m = some (.int .u64 ((a / 2 ^ b : Nat) : Int)) := by
  subst hk
  show (if (b : Int) < 0 then none else some (Value.int .u64 _)) = _
  rw [if_neg (by omega)]
  congr 2
  have : min (b : Int).toNat IntKind.u64.bits = b := by show min _ 64 = _; omega
  rw [this, Int.fdiv_eq_ediv_of_nonneg _ (Int.pow_nonneg (by omega))]
  push_cast; rfl
theorem rd_u8_or {m : Mem} (x : Nat) (h : x < 256) : rd (.ibt .or) [.int .u8 (x : Int), .int .u8 128] m = some (.int .u8 ((x % 128 + 128 : Nat) : Int)) := by
  show some (Value.int .u8 (IntKind.u8.wrap _)) = _
  congr 2
  have : (BitVec.ofInt IntKind.u8.bits (x : Int) ||| BitVec.ofInt IntKind.u8.bits 128).toNat = x % 128 + 128 := by
    have key : ∀ y : Fin 256, (BitVec.ofNat 8 y.val ||| BitVec.ofInt 8 128).toNat = y.val % 128 + 128 := by decide +kernel
    have h1 : BitVec.ofInt IntKind.u8.bits (x : Int) = BitVec.ofNat 8 x := by
      show BitVec.ofInt 8 _ = _
      apply BitVec.eq_of_toNat_eq
      rw [BitVec.toNat_ofInt, BitVec.toNat_ofNat]; omega
    rw [h1]
    exact key ⟨x, h⟩
  rw [this, IntWalk.u8_in]; omega
theorem u8_wrap (n : Nat) : IntKind.u8.wrap (n : Int) = ((n % 256 : Nat) : Int) := by rw [IntKind.wrap_u8]; omega

/-! what a slice of bytes reads as -/
section
variable {m m' : Mem}
abbrev RdB (m : Mem) (v : Value) (l : List UInt8) : Prop := RdS 1 bc m v l
theorem ldS_of {α : Type} {k : Nat} {enc : α → List Value} {a : Option Addr} {c : Nat} {l : List α} (h : RdS k enc m (.slice a l.length c) l) : ldS m a (l.length * k) = some (l.flatMap enc) := by
  obtain ⟨hk, a', c', e, _, hr⟩ := h
  cases e
  have hl := fm_len hk l
  rcases hr with h0 | ⟨b, o, rfl, hc⟩
  · rw [h0] at hl ⊢
    have : l.length * k = 0 := by simpa using hl.symm
    rw [this]
    cases a with
    | none => rfl
    | some a => rfl
  · rw [← hl]
    exact lda_of _ o 0 (fun j hj => by rw [Nat.add_zero]; exact hc j _ (List.getElem?_eq_getElem hj))
theorem rd_b2s {a : Option Addr} {c : Nat} {l : List UInt8} (h : RdB m (.slice a l.length c) l) : rd .b2s [.slice a l.length c] m = some (.string ⟨l.toArray⟩) := by
  have := ldS_of h
  rw [Nat.mul_one] at this
  show (ldS m a l.length).bind _ = _
  rw [this, Option.bind_some, bytesIn_bys]; rfl
theorem flat_take {α : Type} {k : Nat} {enc : α → List Value} (hk : ∀ x, (enc x).length = k) : ∀ (l : List α) (n : Nat), (l.take n).flatMap enc = (l.flatMap enc).take (n * k)
  | [], n => by simp
  | x :: r, 0 => by simp
  | x :: r, n + 1 => by
    rw [List.take_succ_cons, List.flatMap_cons, List.flatMap_cons, flat_take hk r n, List.take_append, hk]
    rw [List.take_of_length_le (l := enc x) (by rw [hk, Nat.add_mul]; omega), show (n + 1) * k - k = n * k from by rw [Nat.add_mul]; omega]
theorem flat_drop {α : Type} {k : Nat} {enc : α → List Value} (hk : ∀ x, (enc x).length = k) : ∀ (l : List α) (n : Nat), (l.drop n).flatMap enc = (l.flatMap enc).drop (n * k)
  | [], n => by simp
  | x :: r, 0 => by simp
  | x :: r, n + 1 => by
    rw [List.drop_succ_cons, List.flatMap_cons, flat_drop hk r n, List.drop_append, hk]
    have h1 : (enc x).drop ((n + 1) * k) = [] := List.drop_eq_nil_iff.2 (by rw [hk, Nat.add_mul]; omega)
    rw [h1, List.nil_append, show (n + 1) * k - k = n * k from by rw [Nat.add_mul]; omega]
theorem RdS.cut {α : Type} {k : Nat} {enc : α → List Value} {a : Option Addr} {c : Nat} {l : List α} (k0 : 0 < k) (h : RdS k enc m (.slice a l.length c) l) (lo hi : Nat) (h1 : lo ≤ hi) (h2 : hi ≤ l.length) :
    ∃ a' c', cutS k a c lo hi = some (.slice a' (hi - lo) c') ∧ RdS k enc m (.slice a' (hi - lo) c') ((l.take hi).drop lo) ∧ blkOf (.slice a' (hi - lo) c') = blkOf (.slice a (hi - lo) c') := by
  obtain ⟨hk, a0, c0, e, hc, hr⟩ := h
  cases e
  have hlen : ((l.take hi).drop lo).length = hi - lo := by simp; omega
  have hcut : (0 : Int) ≤ lo ∧ (lo : Int) ≤ hi ∧ (hi : Int) ≤ c := by omega
  refine ⟨if c = lo then a else a.map (·.add (lo * k)), c - lo, ?_, ⟨hk, _, _, by rw [hlen], by rw [hlen]; omega, ?_⟩, ?_⟩
  · unfold cutS
    rw [if_pos hcut]
    simp only [Int.toNat_natCast]
  · rw [flat_drop hk, flat_take hk]
    by_cases e : hi = lo
    · left
      subst e
      rw [List.drop_eq_nil_iff, List.length_take]; omega
    · rcases hr with h0 | ⟨b, o, rfl, hcell⟩
      · exfalso
        have := fm_len hk l
        rw [h0] at this
        have h3 : 0 < l.length * k := Nat.mul_pos (by omega) k0
        simp at this; omega
      · right
        refine ⟨b, o + lo * k, ?_, fun i v hv => ?_⟩
        · rw [if_neg (by omega)]; simp [add_mk]
        · rw [List.getElem?_drop, List.getElem?_take] at hv
          split at hv
          · rw [Nat.add_assoc]; exact hcell _ _ hv
          · cases hv
  · split
    · rfl
    · cases a with
      | none => rfl
      | some a => simp only [Option.map_some, blkOf, Addr.add]; split <;> rfl
theorem RdS.nil {α : Type} {k : Nat} {enc : α → List Value} (hk : ∀ x, (enc x).length = k) (m : Mem) : RdS k enc m (.slice none 0 0) ([] : List α) := ⟨hk, none, 0, rfl, by simp, .inl rfl⟩
theorem Rd1.st {a : Option Addr} {l : List Value} {n c : Nat} (h : Rd1 m a l) (e : ∀ b ∈ blkOf (.slice a n c), m' b = m b) : Rd1 m' a l := by
  rcases h with rfl | ⟨b, o, rfl, hc⟩
  · exact .inl rfl
  · exact .inr ⟨b, o, rfl, fun i v hv => by rw [e b (by simp [blkOf])]; exact hc i v hv⟩
theorem RdS.st {α : Type} {k : Nat} {enc : α → List Value} {v : Value} {l : List α} (h : RdS k enc m v l) (e : ∀ b ∈ blkOf v, m' b = m b) : RdS k enc m' v l := by
  obtain ⟨hk, a, c, rfl, hc, hr⟩ := h
  exact ⟨hk, a, c, rfl, hc, hr.st e⟩
/-- a row that is only read, with its memory -/
abbrev rdsA {α : Type} (k : Nat) (enc : α → List Value) (v : Value) (l : List α) : As where
  fp := blkOf v
  wp := []
  sub _ h := by cases h
  p m := RdS k enc m v l ∧ ∀ b ∈ blkOf v, m b ≠ none
  st h e := ⟨h.1.st e, fun b hb => by rw [e b hb]; exact h.2 b hb⟩
  th h := h.2
/-- bytes of one's own -/
abbrev byA (t : TypeId) (v : Value) (l : List UInt8) : As := ownA t 1 v l.length (bys l)
theorem byA_rd {t : TypeId} {v : Value} {l : List UInt8} (h : (byA t v l).p m) : RdB m v l := Own.rds (by omega) bc_len h
theorem byA_app {t : TypeId} {v : Value} {l r : List UInt8} : ownA t 1 v (l.length + r.length) (bys l ++ bys r) = byA t v (l ++ r) := by
  have : l.length + r.length = (l ++ r).length := by simp
  rw [this, ← bys_app]
theorem bv_of (n : Nat) (h : n < 256) : Value.int .u8 (n : Int) = bv (UInt8.ofNat n) := by
  have : (UInt8.ofNat n).toNat = n := by simp; omega
  rw [bv, this]
theorem str_bys (s : ByteArray) : (s.data.toList.map fun (c : UInt8) => Value.int .u8 c.toNat) = bys s.data.toList := by rw [bys_map]
end
end Go.Fw
namespace Go.Fw
open Go
theorem rd_u64_and1 {m : Mem} (x : Nat) (h : x < 2 ^ 64) : rd (.ibt .and) [.int .u64 (x : Int), .int .u64 1] m = some (.int .u64 ((x % 2 : Nat) : Int)) := by
  show some (Value.int .u64 (IntKind.u64.wrap _)) = _
  congr 2
  have : (BitVec.ofInt IntKind.u64.bits (x : Int) &&& BitVec.ofInt IntKind.u64.bits 1).toNat = x % 2 := by
    show (BitVec.ofInt 64 (x : Int) &&& BitVec.ofInt 64 1).toNat = _
    rw [BitVec.toNat_and, BitVec.toNat_ofInt, BitVec.toNat_ofInt]
    have h1 : ((x : Int) % ((2 ^ 64 : Nat) : Int)).toNat = x := by omega
    have h2 : ((1 : Int) % ((2 ^ 64 : Nat) : Int)).toNat = 2 ^ 1 - 1 := by decide
    rw [h1, h2, Nat.and_two_pow_sub_one_eq_mod]
  rw [this, u64_in]; omega
theorem rd_i64_xor0 {m : Mem} (x : Int) (h : -9223372036854775808 ≤ x ∧ x ≤ 9223372036854775807) : rd (.ibt .xor) [.int .i64 x, .int .i64 0] m = some (.int .i64 x) := by
  show some (Value.int .i64 (IntKind.i64.wrap _)) = _
  congr 2
  have : (BitVec.ofInt IntKind.i64.bits x ^^^ BitVec.ofInt IntKind.i64.bits 0).toNat = (x % 18446744073709551616).toNat := by
    show (BitVec.ofInt 64 x ^^^ BitVec.ofInt 64 0).toNat = _
    rw [BitVec.toNat_xor, BitVec.toNat_ofInt, BitVec.toNat_ofInt]
    simp
  rw [this, IntKind.wrap_i64]; omega
theorem rd_i64_xor1 {m : Mem} (x : Int) (h : -9223372036854775808 ≤ x ∧ x ≤ 9223372036854775807) : rd (.ibt .xor) [.int .i64 x, .int .i64 (-1)] m = some (.int .i64 (-x - 1)) := by
  show some (Value.int .i64 (IntKind.i64.wrap _)) = _
  congr 2
  have : (BitVec.ofInt IntKind.i64.bits x ^^^ BitVec.ofInt IntKind.i64.bits (-1)).toNat = 18446744073709551615 - (x % 18446744073709551616).toNat := by
    show (BitVec.ofInt 64 x ^^^ BitVec.ofInt 64 (-1)).toNat = _
    have e : BitVec.ofInt 64 (-1) = BitVec.allOnes 64 := by decide
    rw [e, BitVec.xor_allOnes, BitVec.toNat_not, BitVec.toNat_ofInt]
    simp
  rw [this, IntKind.wrap_i64]; omega
theorem rd_u64_xor0 {m : Mem} (x : Nat) (h : x < 2 ^ 64) : rd (.ibt .xor) [.int .u64 (x : Int), .int .u64 0] m = some (.int .u64 (x : Int)) := by
  show some (Value.int .u64 (IntKind.u64.wrap _)) = _
  congr 2
  have : (BitVec.ofInt IntKind.u64.bits (x : Int) ^^^ BitVec.ofInt IntKind.u64.bits 0).toNat = x := by
    show (BitVec.ofInt 64 (x : Int) ^^^ BitVec.ofInt 64 0).toNat = _
    rw [BitVec.toNat_xor, BitVec.toNat_ofInt, BitVec.toNat_ofInt]
    simp; omega
  rw [this, u64_in]; omega
theorem rd_u64_xor1 {m : Mem} (x : Nat) (h : x < 2 ^ 64) : rd (.ibt .xor) [.int .u64 (x : Int), .int .u64 18446744073709551615] m = some (.int .u64 ((18446744073709551615 - x : Nat) : Int)) := by
  show some (Value.int .u64 (IntKind.u64.wrap _)) = _
  congr 2
  have : (BitVec.ofInt IntKind.u64.bits (x : Int) ^^^ BitVec.ofInt IntKind.u64.bits 18446744073709551615).toNat = 18446744073709551615 - x := by
    show (BitVec.ofInt 64 (x : Int) ^^^ BitVec.ofInt 64 18446744073709551615).toNat = _
    have e : BitVec.ofInt 64 18446744073709551615 = BitVec.allOnes 64 := by decide
    rw [e, BitVec.xor_allOnes, BitVec.toNat_not, BitVec.toNat_ofInt]
    simp; omega
  rw [this, u64_in]; omega
end Go.Fw
