import Derived.Test.YtadkdbnikmkgfaaFxA
/-! The codec in plain words: numbers, texts, flags, commands, attributes, cells, records. -/
namespace Go.Fw
open Go
def zig (n : Int) : Nat := if n < 0 then (-2 * n - 1).toNat else (2 * n).toNat
def zag (u : Nat) : Int := if u % 2 = 1 then -((u / 2 : Nat) : Int) - 1 else ((u / 2 : Nat) : Int)
def numF : Nat → Nat → List UInt8
  | 0, _ => []
  | f + 1, u => if u < 128 then [UInt8.ofNat u] else UInt8.ofNat (u % 128 + 128) :: numF f (u / 128)
def numB (n : Int) : List UInt8 := numF 10 (zig n)
def textB (s : ByteArray) : List UInt8 := numB s.size ++ s.data.toList
def flagB (f : Bool) : List UInt8 := if f then [1] else [0]
/-- a reader: its place, its first error -/
structure RS where
  pos : Nat
  wr : Int
def numR : List UInt8 → Nat → Nat → Int ⊕ (Nat × Nat)
  | [], _, _ => .inl 3
  | c :: r, i, u => if (0 < i ∧ c.toNat = 0) ∨ (i = 9 ∧ 1 < c.toNat) then .inl 4 else if c.toNat < 128 then .inr (u + c.toNat * 2 ^ (7 * i), i + 1) else numR r (i + 1) (u + c.toNat % 128 * 2 ^ (7 * i))
def numE (s : RS) : Int ⊕ (Nat × Nat) → Int × RS
  | .inl e => (0, ⟨s.pos, e⟩)
  | .inr (u, k) => (zag u, ⟨s.pos + k, s.wr⟩)
def RS.num (b : List UInt8) (s : RS) : Int × RS := if s.wr ≠ 0 then (0, s) else numE s (numR (b.drop s.pos) 0 0)
def RS.count (b : List UInt8) (s : RS) (most : Int) : Int × RS :=
  if (s.num b).2.wr = 0 ∧ ((s.num b).1 < 0 ∨ most < (s.num b).1) then (0, ⟨s.pos, 2⟩) else s.num b
def RS.text (b : List UInt8) (s : RS) (most : Int) : ByteArray × RS :=
  if (s.count b most).2.wr ≠ 0 then (noB, (s.count b most).2) else
  if ((b.length - (s.count b most).2.pos : Nat) : Int) < (s.count b most).1 then (noB, ⟨s.pos, 3⟩) else
  (⟨((b.drop (s.count b most).2.pos).take (s.count b most).1.toNat).toArray⟩, ⟨(s.count b most).2.pos + (s.count b most).1.toNat, 0⟩)
def RS.flag (b : List UInt8) (s : RS) : Bool × RS :=
  if s.wr ≠ 0 then (false, s) else
  match b[s.pos]? with
  | none => (false, ⟨s.pos, 3⟩)
  | some c => if 1 < c.toNat then (false, ⟨s.pos, 4⟩) else (decide (c.toNat = 1), ⟨s.pos + 1, 0⟩)
def RS.fin (b : List UInt8) (s : RS) : RS := if s.wr = 0 ∧ s.pos < b.length then ⟨s.pos, 5⟩ else s
def RS.bad (s : RS) : RS := if s.wr = 0 then ⟨s.pos, 4⟩ else s
theorem numR_len : ∀ (l : List UInt8) (i u : Nat) {x k : Nat}, numR l i u = .inr (x, k) → i < k ∧ k ≤ i + l.length
  | [], _, _, _, _, h => by cases h
  | c :: r, i, u, x, k, h => by
    simp only [numR] at h
    split at h
    · cases h
    · split at h
      · cases h; simp
      · have := numR_len r _ _ h
        simp; omega
theorem numR_err : ∀ (l : List UInt8) (i u : Nat) {e : Int}, numR l i u = .inl e → e = 3 ∨ e = 4
  | [], _, _, _, h => by cases h; exact .inl rfl
  | c :: r, i, u, e, h => by
    simp only [numR] at h
    split at h
    · cases h; exact .inr rfl
    · split at h
      · cases h
      · exact numR_err r _ _ h
theorem RS.num_pos (b : List UInt8) (s : RS) (h : s.pos ≤ b.length) : s.pos ≤ (s.num b).2.pos ∧ (s.num b).2.pos ≤ b.length := by
  unfold RS.num
  split
  · exact ⟨Nat.le_refl _, h⟩
  · cases hn : numR (b.drop s.pos) 0 0 with
    | inl e => exact ⟨Nat.le_refl _, h⟩
    | inr p =>
      obtain ⟨u, k⟩ := p
      have := numR_len _ _ _ hn
      simp only [List.length_drop] at this
      simp only [numE]; omega
theorem RS.num_bad {b : List UInt8} {s : RS} (h : s.wr ≠ 0) : s.num b = (0, s) := by simp [RS.num, h]
theorem RS.count_bad {b : List UInt8} {s : RS} {k : Int} (h : s.wr ≠ 0) : s.count b k = (0, s) := by simp [RS.count, RS.num_bad h, h]
theorem RS.text_bad {b : List UInt8} {s : RS} {k : Int} (h : s.wr ≠ 0) : s.text b k = (noB, s) := by simp [RS.text, RS.count_bad h, h]
theorem RS.flag_bad {b : List UInt8} {s : RS} (h : s.wr ≠ 0) : s.flag b = (false, s) := by simp [RS.flag, h]
theorem RS.count_pos (b : List UInt8) (s : RS) (k : Int) (h : s.pos ≤ b.length) : s.pos ≤ (s.count b k).2.pos ∧ (s.count b k).2.pos ≤ b.length := by
  unfold RS.count
  split
  · exact ⟨Nat.le_refl _, h⟩
  · exact s.num_pos b h
theorem RS.count_range (b : List UInt8) (s : RS) (k : Int) (h0 : 0 ≤ k) (h : (s.count b k).2.wr = 0) : 0 ≤ (s.count b k).1 ∧ (s.count b k).1 ≤ k := by
  unfold RS.count at *
  split at h
  · cases h
  · rename_i h1
    rw [if_neg h1]
    by_cases h2 : (s.num b).2.wr = 0
    · constructor
      · exact Int.not_lt.1 fun h3 => h1 ⟨h2, .inl h3⟩
      · exact Int.not_lt.1 fun h3 => h1 ⟨h2, .inr h3⟩
    · exact absurd h h2
theorem RS.text_pos (b : List UInt8) (s : RS) (k : Int) (h : s.pos ≤ b.length) : s.pos ≤ (s.text b k).2.pos ∧ (s.text b k).2.pos ≤ b.length := by
  have h1 := s.count_pos b k h
  unfold RS.text
  split
  · exact h1
  · split
    · exact ⟨Nat.le_refl _, h⟩
    · rename_i h3; simp only; omega
theorem RS.flag_pos (b : List UInt8) (s : RS) (h : s.pos ≤ b.length) : s.pos ≤ (s.flag b).2.pos ∧ (s.flag b).2.pos ≤ b.length := by
  unfold RS.flag
  split
  · exact ⟨Nat.le_refl _, h⟩
  · cases hg : b[s.pos]? with
    | none => exact ⟨Nat.le_refl _, h⟩
    | some c =>
      have := (List.getElem?_eq_some_iff.1 hg).1
      simp only
      split
      · exact ⟨Nat.le_refl _, h⟩
      · simp only; omega
theorem zag_range (u : Nat) (h : u < 2 ^ 64) : -9223372036854775808 ≤ zag u ∧ zag u ≤ 9223372036854775807 := by unfold zag; split <;> omega
theorem numR_lt : ∀ (l : List UInt8) (i u : Nat) {x k : Nat}, u < 2 ^ (7 * i) → i ≤ 9 → numR l i u = .inr (x, k) → x < 2 ^ 64
  | [], _, _, _, _, _, _, h => by cases h
  | c :: r, i, u, x, k, hu, hi, h => by
    simp only [numR] at h
    split at h
    · cases h
    · rename_i h1
      have hc := c.toNat_lt
      split at h
      · cases h
        by_cases e : i = 9
        · subst e
          have : (2 : Nat) ^ (7 * 9) = 9223372036854775808 := by decide
          rw [this] at hu ⊢
          have : c.toNat ≤ 1 := by omega
          have := Nat.mul_le_mul_right 9223372036854775808 this
          omega
        · have h3 : (2 : Nat) ^ (7 * i) ≤ 2 ^ 56 := Nat.pow_le_pow_right (by omega) (by omega)
          have h4 := Nat.mul_le_mul (show c.toNat ≤ 127 by omega) h3
          have : (2 : Nat) ^ 56 = 72057594037927936 := by decide
          omega
      · by_cases e : i = 9
        · omega
        · refine numR_lt r (i + 1) _ ?_ (by omega) h
          have : (2 : Nat) ^ (7 * (i + 1)) = 128 * 2 ^ (7 * i) := by rw [show 7 * (i + 1) = 7 + 7 * i from by omega, Nat.pow_add]
          rw [this]
          have h4 := Nat.mul_le_mul_right (2 ^ (7 * i)) (show c.toNat % 128 ≤ 127 by omega)
          omega
theorem RS.num_range (b : List UInt8) (s : RS) : -9223372036854775808 ≤ (s.num b).1 ∧ (s.num b).1 ≤ 9223372036854775807 := by
  unfold RS.num
  split
  · simp
  · cases hn : numR (b.drop s.pos) 0 0 with
    | inl e => simp [numE]
    | inr p =>
      obtain ⟨u, k⟩ := p
      exact zag_range u (numR_lt _ _ _ (by decide) (by omega) hn)

theorem zag_zig (n : Int) : zag (zig n) = n := by unfold zag zig; split <;> split <;> omega
theorem zig_lt (n : Int) (h : -9223372036854775808 ≤ n ∧ n ≤ 9223372036854775807) : zig n < 2 ^ 64 := by unfold zig; split <;> omega
/-- what was written is read -/
theorem numR_numF : ∀ (f u i a : Nat) (r : List UInt8), u < 2 ^ (64 - 7 * i) → 10 ≤ f + i → i ≤ 9 → (i = 0 ∨ 0 < u) → numR (numF f u ++ r) i a = .inr (a + u * 2 ^ (7 * i), i + (numF f u).length)
  | 0, u, i, a, r, hu, hf, hi, h0 => by omega
  | f + 1, u, i, a, r, hu, hf, hi, h0 => by
    simp only [numF]
    split
    · rename_i hlt
      have ht : (UInt8.ofNat u).toNat = u := by simp; omega
      have h9 : ¬ ((0 < i ∧ u = 0) ∨ (i = 9 ∧ 1 < u)) := by
        rintro (h | ⟨rfl, h⟩)
        · omega
        · have : (2 : Nat) ^ (64 - 7 * 9) = 2 := by decide
          omega
      simp only [List.cons_append, List.nil_append, numR, ht, if_neg h9, if_pos hlt]; rfl
    · rename_i hge
      have ht : (UInt8.ofNat (u % 128 + 128)).toNat = u % 128 + 128 := by simp; omega
      have hi9 : i ≠ 9 := by
        rintro rfl
        have : (2 : Nat) ^ (64 - 7 * 9) = 2 := by decide
        omega
      have h9 : ¬ ((0 < i ∧ u % 128 + 128 = 0) ∨ (i = 9 ∧ 1 < u % 128 + 128)) := by omega
      simp only [List.cons_append, numR, ht, if_neg h9, if_neg (show ¬ u % 128 + 128 < 128 by omega)]
      have hp : (2 : Nat) ^ (64 - 7 * i) = 2 ^ (64 - 7 * (i + 1)) * 128 := by
        rw [show 64 - 7 * i = (64 - 7 * (i + 1)) + 7 from by omega, Nat.pow_add]
      rw [numR_numF f (u / 128) (i + 1) _ r (by rw [hp] at hu; exact Nat.div_lt_of_lt_mul (by rw [Nat.mul_comm]; exact hu)) (by omega) (by omega) (by omega)]
      have hpow : (2 : Nat) ^ (7 * (i + 1)) = 128 * 2 ^ (7 * i) := by rw [show 7 * (i + 1) = 7 + 7 * i from by omega, Nat.pow_add]
      have e1 : a + (u % 128 + 128) % 128 * 2 ^ (7 * i) + u / 128 * 2 ^ (7 * (i + 1)) = a + u * 2 ^ (7 * i) := by
        rw [hpow, Nat.add_assoc, ← Nat.mul_assoc, ← Nat.add_mul]
        have : (u % 128 + 128) % 128 + u / 128 * 128 = u := by omega
        rw [this]
      rw [e1, List.length_cons]
      congr 2; omega
/-- a beginning of what was written is no number -/
theorem numR_cut : ∀ (f u i a k : Nat), k < (numF f u).length → u < 2 ^ (64 - 7 * i) → 10 ≤ f + i → i ≤ 9 → numR ((numF f u).take k) i a = .inl 3
  | 0, u, i, a, k, hk, _, _, _ => by simp [numF] at hk
  | f + 1, u, i, a, 0, hk, _, _, _ => by simp [numR]
  | f + 1, u, i, a, k + 1, hk, hu, hf, hi => by
    simp only [numF] at hk ⊢
    split
    · rename_i hlt; simp [hlt] at hk
    · rename_i hge
      rw [if_neg hge] at hk
      simp only [List.length_cons] at hk
      have ht : (UInt8.ofNat (u % 128 + 128)).toNat = u % 128 + 128 := by simp; omega
      have hi9 : i ≠ 9 := by
        rintro rfl
        have : (2 : Nat) ^ (64 - 7 * 9) = 2 := by decide
        omega
      have h9 : ¬ ((0 < i ∧ u % 128 + 128 = 0) ∨ (i = 9 ∧ 1 < u % 128 + 128)) := by omega
      have hp : (2 : Nat) ^ (64 - 7 * i) = 2 ^ (64 - 7 * (i + 1)) * 128 := by
        rw [show 64 - 7 * i = (64 - 7 * (i + 1)) + 7 from by omega, Nat.pow_add]
      simp only [List.take_succ_cons, numR, ht, if_neg h9, if_neg (show ¬ u % 128 + 128 < 128 by omega)]
      exact numR_cut f (u / 128) (i + 1) _ k (by omega) (by rw [hp] at hu; exact Nat.div_lt_of_lt_mul (by rw [Nat.mul_comm]; exact hu)) (by omega) (by omega)
end Go.Fw
