import Derived.Test.YtnpldldflbeogaaGrFrom
import Derived.Test.YtnpldldflbeogaaGrOut
namespace Go.Fw
open Go.Proofs

def rv (n : Nat) (f : Nat → Value) : List Value := (List.range n).map f
theorem rv_len (n : Nat) (f : Nat → Value) : (rv n f).length = n := by simp [rv]
theorem rv_get (n : Nat) (f : Nat → Value) (k : Nat) (h : k < n) : (rv n f)[k]? = some (f k) := by simp [rv, List.getElem?_range h]
theorem rv_set (n : Nat) (f : Nat → Value) (k : Nat) (x : Value) : (rv n f).set k x = rv n (Up f k x) := by
  apply List.ext_getElem?
  intro i
  rw [List.getElem?_set]
  by_cases hi : i < n
  · rw [rv_get n _ i hi]
    split
    · rename_i e; subst e; rw [if_pos (by rw [rv_len]; exact hi), rv_get n _ k hi, Up_self]
    · rename_i e; rw [rv_get n _ i hi, Up_ne _ (fun h => e h.symm)]
  · have h1 : ∀ g, (rv n g)[i]? = none := fun g => List.getElem?_eq_none (by rw [rv_len]; omega)
    rw [h1, h1]
    split
    · rw [if_neg (by rw [rv_len]; omega)]
    · rfl
theorem rv_new (n : Nat) : (List.replicate n [Value.slice none 0 0]).flatten = rv n fun _ => .slice none 0 0 := by
  apply List.ext_getElem?
  intro i
  by_cases hi : i < n
  · rw [rv_get n _ i hi]
    simp [List.flatten_replicate_singleton, hi]
  · rw [List.getElem?_eq_none (by simp; omega), List.getElem?_eq_none (by rw [rv_len]; omega)]
attribute [go_sem] rv_len rv_get rv_set rv_new

/-- a row of rows of the call's own -/
structure Rows (m : Mem) (b N : Nat) (f : Nat → Value) (xs : Nat → List Nat) : Prop where
  hb : m b = some (.cells (rv N f).toArray 26 (0, 0))
  own : ∀ p, p < N → Own m 3 1 (f p) (xs p).length (nats (xs p))
  dis : ∀ p q, p < N → q < N → p ≠ q → ∀ x ∈ blkOf (f p), x ∉ blkOf (f q)
  nb : ∀ p, p < N → b ∉ blkOf (f p)
def InRows (b N : Nat) (f : Nat → Value) (x : Nat) : Prop := x = b ∨ ∃ p, p < N ∧ x ∈ blkOf (f p)
theorem Rows.there {m : Mem} {b N : Nat} {f : Nat → Value} {xs : Nat → List Nat} (h : Rows m b N f xs) {x : Nat} (hx : InRows b N f x) : m x ≠ none := by
  rcases hx with rfl | ⟨p, hp, hx⟩
  · rw [h.hb]; exact Option.some_ne_none _
  · exact (h.own p hp).there x hx
theorem Rows.new {m : Mem} {b N : Nat} : Rows (m.set b (.cells (rv N fun _ => .slice none 0 0).toArray 26)) b N (fun _ => .slice none 0 0) (fun _ => []) :=
  ⟨by simp [Mem.set], fun p _ => Own.nil _ _ _, fun p q _ _ _ x hx => by simp [blkOf] at hx, fun p _ => by simp [blkOf]⟩
theorem inRows_new {b N x : Nat} : InRows b N (fun _ => .slice none 0 0) x → x = b := by
  rintro (h | ⟨p, _, h⟩)
  · exact h
  · simp [blkOf] at h
theorem Rows.frame {m m' : Mem} {b N : Nat} {f : Nat → Value} {xs : Nat → List Nat} {S : List Nat} (h : Rows m b N f xs) (g : Fr m m' S) (hS : ∀ x ∈ S, ¬ InRows b N f x) : Rows m' b N f xs :=
  ⟨g.get h.hb (fun hb => hS _ hb (.inl rfl)), fun p hp => (h.own p hp).frame g (fun x hx hxS => hS x hxS (.inr ⟨p, hp, hx⟩)), h.dis, h.nb⟩
theorem Rows.frame0 {m m' : Mem} {b N : Nat} {f : Nat → Value} {xs : Nat → List Nat} (h : Rows m b N f xs) (g : Fr m m' []) : Rows m' b N f xs := h.frame g (fun _ hx => by cases hx)

/-- one is put behind a row -/
theorem Rows.step {m m1 m' : Mem} {b N : Nat} {f : Nat → Value} {xs : Nat → List Nat} (h : Rows m b N f xs) {p : Nat} (hp : p < N) {x : Nat} {v : Value} (f1 : Fr m m1 [])
    (hown : Own m' 3 1 v ((xs p).length + 1) (nats (xs p) ++ [.int .i64 (x : Nat)])) (f2 : Fr m1 m' (blkOf (f p))) (hblk : ∀ y ∈ blkOf v, y ∈ blkOf (f p) ∨ m1 y = none) :
    Rows (m'.set b (.cells (rv N (Up f p v)).toArray 26)) b N (Up f p v) (Up xs p (xs p ++ [x])) ∧ m' b = some (.cells (rv N f).toArray 26 (0, 0)) ∧
    Fr m1 (m'.set b (.cells (rv N (Up f p v)).toArray 26)) (b :: blkOf (f p)) ∧ (∀ y, InRows b N (Up f p v) y → InRows b N f y ∨ m1 y = none) := by
  have hb' : m' b = some (.cells (rv N f).toArray 26 (0, 0)) := f2.get (f1.get0 h.hb) (h.nb p hp)
  have hnb : b ∉ blkOf v := fun hb => by
    rcases hblk b hb with h1 | h1
    · exact h.nb p hp h1
    · rw [f1.get0 h.hb] at h1; cases h1
  have fs : Fr m' (m'.set b (.cells (rv N (Up f p v)).toArray 26)) [b] := Fr.set (by simp)
  have hdis : ∀ q, q < N → q ≠ p → ∀ y ∈ blkOf v, y ∉ blkOf (f q) := fun q hq hne y hy hy' => by
    rcases hblk y hy with h1 | h1
    · exact h.dis p q hp hq (fun e => hne e.symm) y h1 hy'
    · have := (h.own q hq).there y hy'
      obtain ⟨o, ho⟩ := Option.ne_none_iff_exists'.1 this
      rw [f1.get0 ho] at h1; cases h1
  refine ⟨⟨by simp [Mem.set], fun q hq => ?_, fun q r hq hr hne y hy => ?_, fun q hq => ?_⟩, hb', ?_, ?_⟩
  · by_cases e : q = p
    · subst e
      rw [Up_self, Up_self]
      have : Own m' 3 1 v (xs q ++ [x]).length (nats (xs q ++ [x])) := by simpa [nats] using hown
      exact this.frame fs (fun y hy => by simp only [List.mem_singleton]; rintro rfl; exact hnb hy)
    · rw [Up_ne _ e, Up_ne _ e]
      exact (((h.own q hq).frame0 f1).frame f2 (fun y hy hy' => h.dis q p hq hp e y hy hy')).frame fs (fun y hy => by simp only [List.mem_singleton]; rintro rfl; exact h.nb q hq hy)
  · by_cases e : q = p
    · subst e
      rw [Up_self] at hy
      rw [Up_ne _ (fun h => hne h.symm)]
      exact hdis r hr (fun h => hne h.symm) y hy
    · rw [Up_ne _ e] at hy
      by_cases e' : r = p
      · subst e'
        rw [Up_self]
        exact fun hy' => hdis q hq e y hy' hy
      · rw [Up_ne _ e']; exact h.dis q r hq hr hne y hy
  · by_cases e : q = p
    · subst e; rw [Up_self]; exact hnb
    · rw [Up_ne _ e]; exact h.nb q hq
  · exact (f2.sub (fun y hy => List.mem_cons_of_mem _ hy)).transS (Fr.set (List.mem_cons_self ..))
  · rintro y (rfl | ⟨q, hq, hy⟩)
    · exact .inl (.inl rfl)
    · by_cases e : q = p
      · subst e
        rw [Up_self] at hy
        rcases hblk y hy with h1 | h1
        · exact .inl (.inr ⟨q, hq, h1⟩)
        · exact .inr h1
      · rw [Up_ne _ e] at hy; exact .inl (.inr ⟨q, hq, hy⟩)

/-- a row of rows that can be read -/
def RdRows (m : Mem) (v : Value) (l : List (List Nat)) : Prop :=
  ∃ a c L, v = .slice a l.length c ∧ L.length = l.length ∧ Rd1 m a L ∧ ∀ (k : Nat) (r : List Nat), l[k]? = some r → ∃ a' c', L[k]? = some (.slice a' r.length c') ∧ Rd1 m a' (nats r)

theorem Own.rd {m : Mem} {t : TypeId} {n : Nat} {v : Value} {xs : List Value} (h : Own m t 1 v n xs) : ∃ a c, v = .slice a n c ∧ Rd1 m a xs := by
  obtain ⟨h1, ⟨rfl, rfl⟩ | ⟨b, cap, tail, rfl, hb, hl⟩⟩ := h
  · exact ⟨none, 0, rfl, .inl (List.eq_nil_of_length_eq_zero (by simpa using h1))⟩
  · refine ⟨_, _, rfl, .inr ⟨b, 0, rfl, fun i v hv => ?_⟩⟩
    rw [hb, cellAt_cells, List.getElem?_toArray, Nat.zero_add, List.getElem?_append_left]
    · exact hv
    · exact (List.getElem?_eq_some_iff.1 hv).1

theorem J.parts {n : Nat} {E : Nat → List Int} {s : TS} (j : J n E s []) (hall : ∀ v, v < n → s.idx v ≠ 0) : PT n E (fun v => (s.part v).toNat) s.many ∧ ri n s.part = ri n (fun v => ((s.part v).toNat : Int)) ∧ ∀ v, v < n → s.part v = ((s.part v).toNat : Int) := by
  have told : ∀ v, v < n → Told n s v := fun v hv => ⟨hv, hall v hv, by rw [j.row]; simp [rowOf]⟩
  have hnn : ∀ v, v < n → s.part v = ((s.part v).toNat : Int) := fun v hv => by have := (j.prange v (told v hv)).1; omega
  refine ⟨⟨fun v hv => ?_, fun u v hu hv => ?_, fun p hp => ?_, fun u v ha => ?_, ?_⟩, ?_, hnn⟩
  · have := j.prange v (told v hv); omega
  · rw [← j.part u v (told u hu) (told v hv)]
    have := hnn u hu; have := hnn v hv
    omega
  · obtain ⟨u, hu, e⟩ := j.psur p hp
    exact ⟨u, hu.1, by simp only [e]; omega⟩
  · have := j.up u v (told u ha.1) ha
    omega
  · have := j.many; have h1 := cnt_le s.idx n; rw [← j.clock] at h1; omega
  · apply List.map_congr_left
    intro v hv
    rw [hnn v (by simpa using hv)]
end Go.Fw
