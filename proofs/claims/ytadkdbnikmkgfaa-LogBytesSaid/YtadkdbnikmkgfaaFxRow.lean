import Derived.Test.YtadkdbnikmkgfaaFxHp
/-! Slices that read as lists. -/
namespace Go.Fw
open Go
section
variable {α : Type} {k : Nat} {enc : α → List Value} {P : Program}
theorem fm_len (hk : ∀ x, (enc x).length = k) : ∀ l : List α, (l.flatMap enc).length = l.length * k
  | [] => by simp
  | x :: r => by rw [List.flatMap_cons, List.length_append, hk, fm_len hk r, List.length_cons, Nat.add_mul]; omega
theorem fm_get (hk : ∀ x, (enc x).length = k) : ∀ (l : List α) (i j : Nat) (hi : i < l.length), j < k → (l.flatMap enc)[i * k + j]? = (enc l[i])[j]?
  | x :: r, 0, j, hi, hj => by
    rw [List.flatMap_cons, Nat.zero_mul, Nat.zero_add, List.getElem?_append_left (by rw [hk]; exact hj)]; rfl
  | x :: r, i + 1, j, hi, hj => by
    have := fm_get hk r i j (by simpa using hi) hj
    rw [List.flatMap_cons, List.getElem?_append_right (by rw [hk, Nat.add_mul]; omega), hk, Nat.add_mul, Nat.one_mul]
    rw [show i * k + k + j - k = i * k + j from by omega, this]; rfl
/-- a slice that reads as l, each element k cells -/
def RdS (k : Nat) (enc : α → List Value) (m : Mem) (v : Value) (l : List α) : Prop := (∀ x, (enc x).length = k) ∧ ∃ a c, v = .slice a l.length c ∧ l.length ≤ c ∧ Rd1 m a (l.flatMap enc)
theorem RdS.frame {m m' : Mem} {v : Value} {l : List α} (h : RdS k enc m v l) (f : Fr m m' []) : RdS k enc m' v l := by
  obtain ⟨hk, a, c, e, hc, hr⟩ := h; exact ⟨hk, a, c, e, hc, hr.frame f⟩
theorem RdS.form {m : Mem} {v : Value} {l : List α} (h : RdS k enc m v l) : ∃ a c, v = .slice a l.length c := by
  obtain ⟨_, a, c, e, _⟩ := h; exact ⟨a, c, e⟩
theorem lda_of {m : Mem} {b : Nat} : ∀ (xs : List Value) (o i : Nat), (∀ j (hj : j < xs.length), cellAt (m b) (o + i + j) = some xs[j]) → ldCells m ⟨b, o, none⟩ i xs.length = some xs
  | [], o, i, _ => by simp [ldCells]
  | x :: r, o, i, h => by
    have h0 := h 0 (by simp)
    simp only [Nat.add_zero, List.getElem_cons_zero] at h0
    rw [List.length_cons, ldCells, add_mk, cell_mk, h0, Option.bind_some, lda_of r o (i + 1) (fun j hj => by
      have := h (j + 1) (by simpa using hj)
      rw [show o + (i + 1) + j = o + i + (j + 1) from by omega, this]; rfl)]
    rfl
theorem RdS.at {m : Mem} {a : Option Addr} {c i : Nat} {l : List α} (h : RdS k enc m (.slice a l.length c) l) (hi : i < l.length) (k0 : 0 < k) :
    ∃ b o, a = some ⟨b, o, none⟩ ∧ rd (.lda k) [.pointer (some ⟨b, o + i * k, none⟩)] m = some (.agg (enc l[i]).toArray) ∧ ∀ j x, (enc l[i])[j]? = some x → cellAt (m b) (o + i * k + j) = some x := by
  obtain ⟨hk, a', c', e, _, hr⟩ := h
  cases e
  rcases hr with h | ⟨b, o, rfl, hc⟩
  · have := fm_len hk l
    rw [h] at this
    have := Nat.mul_pos (Nat.lt_of_le_of_lt (Nat.zero_le _) hi) k0
    simp at *; omega
  · have hcell : ∀ j x, (enc l[i])[j]? = some x → cellAt (m b) (o + i * k + j) = some x := fun j x hx => by
      have hj : j < k := by
        have := (List.getElem?_eq_some_iff.1 hx).1; rwa [hk] at this
      rw [Nat.add_assoc]
      exact hc _ _ (by rw [fm_get hk l i j hi hj]; exact hx)
    refine ⟨b, o, rfl, ?_, hcell⟩
    rw [rd_lda]
    have := lda_of (m := m) (b := b) (enc l[i]) (o + i * k) 0 (fun j hj => by rw [Nat.add_zero]; exact hcell j _ (List.getElem?_eq_getElem hj))
    rw [hk] at this
    rw [this]; rfl
/-- an element of a slice: where it stands, and what it is -/
theorem RdS.el {m : Mem} {a : Option Addr} {c i : Nat} {l : List α} (h : RdS k enc m (.slice a l.length c) l) (hi : i < l.length) (k0 : 0 < k) :
    ∃ b o, (∀ (kd : IntKind) (M : Mem), rd (.ixs k) [.slice a l.length c, .int kd (i : Int)] M = some (.pointer (some ⟨b, o, none⟩))) ∧ rd (.lda k) [.pointer (some ⟨b, o, none⟩)] m = some (.agg (enc l[i]).toArray) ∧ ∀ j x, (enc l[i])[j]? = some x → cellAt (m b) (o + j) = some x := by
  obtain ⟨b, o, rfl, h1, h2⟩ := h.at hi k0
  refine ⟨b, o + i * k, fun kd M => ?_, h1, h2⟩
  rw [rd_ixs _ _ _ _ _ _ (by omega), Int.toNat_natCast, add_mk]
/-- the cells of one element -/
structure El (k : Nat) (enc : α → List Value) (m : Mem) (b o : Nat) (x : α) : Prop where
  len : (enc x).length = k
  cell : ∀ j v, (enc x)[j]? = some v → cellAt (m b) (o + j) = some v
theorem El.frame {m m' : Mem} {b o : Nat} {x : α} (h : El k enc m b o x) (f : Fr m m' []) : El k enc m' b o x := ⟨h.len, fun j v hv => f.cellAt (h.cell j v hv) (by simp)⟩
theorem El.ld {m : Mem} {b o : Nat} {x : α} (h : El k enc m b o x) (j : Nat) (hj : j < k) : cellAt (m b) (o + j) = (enc x)[j]? := by
  have hl := h.len
  rw [List.getElem?_eq_getElem (by omega), h.cell j _ (List.getElem?_eq_getElem (by omega))]
theorem El.ld0 {m : Mem} {b o : Nat} {x : α} (h : El k enc m b o x) (hj : 0 < k) : cellAt (m b) o = (enc x)[0]? := h.ld 0 hj
theorem El.lda {m : Mem} {b o : Nat} {x : α} (h : El k enc m b o x) (j n : Nat) (h0 : 0 < n) (hj : j + n ≤ k) : ldaO (m b) (o + j) n = some (.agg ((((enc x).drop j).take n).toArray)) := by
  rw [← rd_lda_o h0, rd_lda]
  have hl := h.len
  have hlen : (((enc x).drop j).take n).length = n := by simp; omega
  have := lda_of (m := m) (b := b) (((enc x).drop j).take n) (o + j) 0 (fun i hi => by
    rw [Nat.add_zero, Nat.add_assoc, h.ld (j + i) (by omega), ← List.getElem?_eq_getElem hi, List.getElem?_take, if_pos (by omega), List.getElem?_drop])
  rw [hlen] at this
  rw [this]; rfl
theorem El.lda0 {m : Mem} {b o : Nat} {x : α} (h : El k enc m b o x) (n : Nat) (h0 : 0 < n) (hj : n ≤ k) : ldaO (m b) o n = some (.agg (((enc x).take n).toArray)) := by
  have := h.lda 0 n h0 (by omega)
  simpa using this
/-- where the i-th of a slice stands -/
abbrev IxAt (k : Nat) (v : Value) (i : Nat) (b o : Nat) : Prop := ∀ (kd : IntKind) (M : Mem), rd (.ixs k) [v, .int kd (i : Int)] M = some (.pointer (some ⟨b, o, none⟩))
theorem RdS.elK {G : Prop} {m : Mem} {a : Option Addr} {c i : Nat} {l : List α} (h : RdS k enc m (.slice a l.length c) l) (hi : i < l.length) (k0 : 0 < k)
    (K : ∀ b o x, l[i]? = some x → IxAt k (.slice a l.length c) i b o → El k enc m b o x → G) : G := by
  obtain ⟨b, o, h1, h2, h3⟩ := h.el hi k0
  exact K b o l[i] (List.getElem?_eq_getElem hi) h1 ⟨h.1 _, h3⟩
theorem Own.rds {m : Mem} {t : TypeId} {v : Value} {l : List α} (k0 : 0 < k) (hk : ∀ x, (enc x).length = k) (h : Own m t k v l.length (l.flatMap enc)) : RdS k enc m v l := by
  refine ⟨hk, ?_⟩
  rcases h.2 with ⟨rfl, h0⟩ | ⟨b, cap, tail, rfl, hb, hl⟩
  · have : l = [] := List.eq_nil_of_length_eq_zero h0
    subst this
    exact ⟨none, 0, rfl, by simp, .inl rfl⟩
  · refine ⟨some ⟨b, 0, none⟩, cap, rfl, ?_, .inr ⟨b, 0, rfl, fun i x hx => ?_⟩⟩
    · rw [List.length_append, fm_len hk] at hl
      exact Nat.le_of_mul_le_mul_right (by omega : l.length * k ≤ cap * k) (by omega)
    · have := (List.getElem?_eq_some_iff.1 hx).1
      rw [hb, cellAt_cells]
      simp only [Nat.zero_add, List.getElem?_toArray]
      rw [List.getElem?_append_left this]; exact hx
end
end Go.Fw
