import Derived.Test.YtadkdbnikmkgfaaFxSet
/-! Memory that a call made itself: rows that grow. -/
namespace Go.Fw
open Go

/-- nothing that was there has turned, but for the blocks of S -/
def Fr (m m' : Mem) (S : List Nat) : Prop := ∀ b, m b ≠ none → b ∉ S → m' b = m b
theorem Fr.refl (m : Mem) (S : List Nat) : Fr m m S := fun _ _ _ => rfl
theorem Fr.trans {a b c : Mem} {S T : List Nat} (h : Fr a b S) (g : Fr b c T) (hT : ∀ x ∈ T, a x ≠ none → x ∈ S) : Fr a c S := fun x hx hS => by
  have h1 := h x hx hS
  rw [g x (by rw [h1]; exact hx) (fun hxT => hS (hT x hxT hx)), h1]
theorem Fr.trans0 {a b c : Mem} {S : List Nat} (h : Fr a b S) (g : Fr b c []) : Fr a c S := h.trans g (fun _ hx => by cases hx)
theorem Fr.transS {a b c : Mem} {S : List Nat} (h : Fr a b S) (g : Fr b c S) : Fr a c S := h.trans g (fun _ hx _ => hx)
theorem Fr.sub {a b : Mem} {S T : List Nat} (h : Fr a b S) (hs : ∀ x ∈ S, x ∈ T) : Fr a b T := fun x hx hT => h x hx (fun hS => hT (hs x hS))
theorem Fr.new {m : Mem} {b : Nat} {o : Obj} (S : List Nat) (hb : m b = none) : Fr m (m.set b o) S := fun x hx _ => by
  unfold Mem.set; rw [if_neg]; rintro rfl; exact hx hb
theorem Fr.set {m : Mem} {b : Nat} {o : Obj} {S : List Nat} (hb : b ∈ S) : Fr m (m.set b o) S := fun x _ hS => by
  unfold Mem.set; rw [if_neg]; rintro rfl; exact hS hb
theorem Fr.get {m m' : Mem} {S : List Nat} (h : Fr m m' S) {b : Nat} {o : Obj} (hb : m b = some o) (hS : b ∉ S) : m' b = some o := by
  rw [h b (by rw [hb]; exact Option.some_ne_none _) hS, hb]
theorem Fr.get0 {m m' : Mem} (h : Fr m m' []) {b : Nat} {o : Obj} (hb : m b = some o) : m' b = some o := h.get hb (by simp)
theorem Fr.cellAt {m m' : Mem} {S : List Nat} (h : Fr m m' S) {b i : Nat} {v : Value} (hb : cellAt (m b) i = some v) (hS : b ∉ S) : cellAt (m' b) i = some v := by
  rw [h b (by intro e; rw [e] at hb; cases hb) hS]; exact hb
theorem Fr.some {m m' : Mem} {S : List Nat} (h : Fr m m' S) {b : Nat} (hb : m b ≠ none) (hS : b ∉ S) : m' b ≠ none := by rw [h b hb hS]; exact hb

/-! rows given by functions -/
def Up {α : Type} (f : Nat → α) (k : Nat) (x : α) : Nat → α := fun i => if i = k then x else f i
theorem Up_self {α : Type} (f : Nat → α) (k : Nat) (x : α) : Up f k x k = x := by simp [Up]
theorem Up_ne {α : Type} {f : Nat → α} {k i : Nat} (x : α) (h : i ≠ k) : Up f k x i = f i := by simp [Up, h]
def ri (n : Nat) (f : Nat → Int) : List Value := (List.range n).map fun i => .int .i64 (f i)
def rb (n : Nat) (f : Nat → Bool) : List Value := (List.range n).map fun i => .bool (f i)
theorem ri_len (n : Nat) (f : Nat → Int) : (ri n f).length = n := by simp [ri]
theorem rb_len (n : Nat) (f : Nat → Bool) : (rb n f).length = n := by simp [rb]
theorem ri_get (n : Nat) (f : Nat → Int) (k : Nat) (h : k < n) : (ri n f)[k]? = some (.int .i64 (f k)) := by simp [ri, List.getElem?_range h]
theorem rb_get (n : Nat) (f : Nat → Bool) (k : Nat) (h : k < n) : (rb n f)[k]? = some (.bool (f k)) := by simp [rb, List.getElem?_range h]
theorem ri_set (n : Nat) (f : Nat → Int) (k : Nat) (x : Int) : (ri n f).set k (.int .i64 x) = ri n (Up f k x) := by
  apply List.ext_getElem?
  intro i
  rw [List.getElem?_set]
  by_cases hi : i < n
  · rw [ri_get n _ i hi]
    split
    · rename_i e; subst e; rw [if_pos (by rw [ri_len]; exact hi), ri_get n _ k hi, Up_self]
    · rename_i e; rw [ri_get n _ i hi, Up_ne _ (fun h => e h.symm)]
  · have h1 : ∀ g, (ri n g)[i]? = none := fun g => List.getElem?_eq_none (by rw [ri_len]; omega)
    rw [h1, h1]
    split
    · rw [if_neg (by rw [ri_len]; omega)]
    · rfl
theorem rb_set (n : Nat) (f : Nat → Bool) (k : Nat) (x : Bool) : (rb n f).set k (.bool x) = rb n (Up f k x) := by
  apply List.ext_getElem?
  intro i
  rw [List.getElem?_set]
  by_cases hi : i < n
  · rw [rb_get n _ i hi]
    split
    · rename_i e; subst e; rw [if_pos (by rw [rb_len]; exact hi), rb_get n _ k hi, Up_self]
    · rename_i e; rw [rb_get n _ i hi, Up_ne _ (fun h => e h.symm)]
  · have h1 : ∀ g, (rb n g)[i]? = none := fun g => List.getElem?_eq_none (by rw [rb_len]; omega)
    rw [h1, h1]
    split
    · rw [if_neg (by rw [rb_len]; omega)]
    · rfl
theorem ri_new (n : Nat) : (List.replicate n [Value.int .i64 0]).flatten = ri n fun _ => 0 := by
  apply List.ext_getElem?
  intro i
  by_cases hi : i < n
  · rw [ri_get n _ i hi]
    simp [List.flatten_replicate_singleton, hi]
  · rw [List.getElem?_eq_none (by simp; omega), List.getElem?_eq_none (by rw [ri_len]; omega)]
theorem rb_new (n : Nat) : (List.replicate n [Value.bool false]).flatten = rb n fun _ => false := by
  apply List.ext_getElem?
  intro i
  by_cases hi : i < n
  · rw [rb_get n _ i hi]
    simp [List.flatten_replicate_singleton, hi]
  · rw [List.getElem?_eq_none (by simp; omega), List.getElem?_eq_none (by rw [rb_len]; omega)]
attribute [go_sem] ri_len rb_len ri_get rb_get ri_set rb_set ri_new rb_new

/-- a slice of one-cell elements that reads as l -/
def Rd1 (m : Mem) (a : Option Addr) (l : List Value) : Prop := l = [] ∨ ∃ b o, a = some ⟨b, o, none⟩ ∧ ∀ i v, l[i]? = some v → cellAt (m b) (o + i) = some v
theorem Rd1.at {m : Mem} {a : Option Addr} {l : List Value} (h : Rd1 m a l) {i : Nat} (hi : i < l.length) : ∃ b o, a = some ⟨b, o, none⟩ ∧ cellAt (m b) (o + i) = some l[i] := by
  rcases h with rfl | ⟨b, o, rfl, hc⟩
  · simp at hi
  · exact ⟨b, o, rfl, hc i _ (List.getElem?_eq_getElem hi)⟩
theorem Rd1.frame {m m' : Mem} {a : Option Addr} {l : List Value} (h : Rd1 m a l) (f : Fr m m' []) : Rd1 m' a l := by
  rcases h with rfl | ⟨b, o, rfl, hc⟩
  · exact .inl rfl
  · exact .inr ⟨b, o, rfl, fun i v hv => f.cellAt (hc i v hv) (by simp)⟩

def blkOf : Value → List Nat
  | .slice (some a) _ _ => [a.block]
  | _ => []

/-- a slice of the call's own: its row holds xs, and room behind it ('size' cells an element) -/
def Own (m : Mem) (t : TypeId) (size : Nat) (v : Value) (n : Nat) (xs : List Value) : Prop :=
  xs.length = n * size ∧ ((v = .slice none 0 0 ∧ n = 0) ∨ ∃ b cap tail, v = .slice (some ⟨b, 0, none⟩) n cap ∧ m b = some (.cells (xs ++ tail).toArray t (0, 0)) ∧ (xs ++ tail).length = cap * size)

theorem Own.nil (m : Mem) (t : TypeId) (size : Nat) : Own m t size (.slice none 0 0) 0 [] := ⟨by simp, .inl ⟨rfl, rfl⟩⟩
theorem Own.new {m : Mem} {t : TypeId} {size b n : Nat} {xs : List Value} (h : xs.length = n * size) : Own (m.set b (.cells xs.toArray t)) t size (.slice (some ⟨b, 0, none⟩) n n) n xs :=
  ⟨h, .inr ⟨b, n, [], rfl, by simp [Mem.set], by simpa using h⟩⟩
theorem Own.frame {m m' : Mem} {t : TypeId} {size n : Nat} {v : Value} {xs : List Value} {S : List Nat} (h : Own m t size v n xs) (f : Fr m m' S) (hS : ∀ b ∈ blkOf v, b ∉ S) : Own m' t size v n xs := by
  refine ⟨h.1, ?_⟩
  rcases h.2 with h | ⟨b, cap, tail, rfl, hb, hl⟩
  · exact .inl h
  · exact .inr ⟨b, cap, tail, rfl, f.get hb (hS b (by simp [blkOf])), hl⟩
theorem Own.frame0 {m m' : Mem} {t : TypeId} {size n : Nat} {v : Value} {xs : List Value} (h : Own m t size v n xs) (f : Fr m m' []) : Own m' t size v n xs := h.frame f (fun _ _ => by simp)
theorem Own.there {m : Mem} {t : TypeId} {size n : Nat} {v : Value} {xs : List Value} (h : Own m t size v n xs) : ∀ b ∈ blkOf v, m b ≠ none := by
  rcases h.2 with ⟨rfl, _⟩ | ⟨b, cap, tail, rfl, hb, _⟩
  · intro b hb; simp [blkOf] at hb
  · intro b' hb'; simp only [blkOf, List.mem_singleton] at hb'; subst hb'; rw [hb]; exact Option.some_ne_none _
theorem Own.form {m : Mem} {t : TypeId} {size n : Nat} {v : Value} {xs : List Value} (h : Own m t size v n xs) : ∃ a c, v = .slice a n c := by
  rcases h.2 with ⟨rfl, rfl⟩ | ⟨b, cap, tail, rfl, _⟩
  · exact ⟨_, _, rfl⟩
  · exact ⟨_, _, rfl⟩

theorem Own.row {m : Mem} {t : TypeId} {size n : Nat} {v : Value} {xs : List Value} (h : Own m t size v n xs) (hn : 0 < n) :
    ∃ b cap tail, v = .slice (some ⟨b, 0, none⟩) n cap ∧ m b = some (.cells (xs ++ tail).toArray t (0, 0)) ∧ n * size ≤ cap * size ∧ xs.length = n * size := by
  rcases h.2 with ⟨rfl, rfl⟩ | ⟨b, cap, tail, rfl, hb, hl⟩
  · omega
  · have := h.1
    simp only [List.length_append] at hl
    exact ⟨b, cap, tail, rfl, hb, by omega, h.1⟩
theorem Own.shrink {m : Mem} {t : TypeId} {size n c : Nat} {a : Option Addr} {xs : List Value} (h : Own m t size (.slice a n c) n xs) {k : Nat} (hk : k ≤ n) (hn : 0 < n) : Own m t size (.slice a k c) k (xs.take (k * size)) := by
  have hle : k * size ≤ n * size := Nat.mul_le_mul_right _ hk
  rcases h.2 with ⟨e, e'⟩ | ⟨b, cap, tail, e, hb, hl⟩
  · omega
  · cases e
    refine ⟨by rw [List.length_take, h.1]; omega, .inr ⟨b, c, xs.drop (k * size) ++ tail, rfl, ?_, ?_⟩⟩
    · rw [hb, ← List.append_assoc, List.take_append_drop]
    · rw [← hl]; simp only [List.length_append, List.length_take, List.length_drop, h.1]; omega

theorem ldCells_row {m : Mem} {b : Nat} {l : List Value} {t : TypeId} {fr : Nat × Nat} (hb : m b = some (.cells l.toArray t fr)) : ∀ (n i o : Nat), o + i + n ≤ l.length →
    ldCells m ⟨b, o, none⟩ i n = some ((l.drop (o + i)).take n)
  | 0, i, o, h => by simp [ldCells]
  | n + 1, i, o, h => by
    have hlt : o + i < l.length := by omega
    have hc : cell m (Addr.add ⟨b, o, none⟩ i) = some l[o + i] := by
      rw [add_mk, cell_mk, hb, cellAt_cells]; simp [hlt]
    rw [ldCells, hc, Option.bind_some, ldCells_row hb n (i + 1) o (by omega), Option.map_some]
    congr 1
    rw [List.drop_eq_getElem_cons hlt, List.take_succ_cons]; rfl

theorem set_same {m : Mem} {b : Nat} {o : Obj} (h : m b = some o) : m.set b o = m := by
  funext x; unfold Mem.set; split
  · rename_i e; subst e; exact h.symm
  · rfl

theorem stCells_row {t : TypeId} {b o : Nat} : ∀ (vs : List Value) (i : Nat) (m : Mem) (l : List Value), m b = some (.cells l.toArray t (0, 0)) → o + i + vs.length ≤ l.length → (∀ v ∈ vs, v.oneCell' = true) →
    stCells m ⟨b, o, none⟩ i vs = some (m.set b (.cells (l.take (o + i) ++ vs ++ l.drop (o + i + vs.length)).toArray t (0, 0)))
  | [], i, m, l, hb, _, _ => by
    simp only [stCells, List.append_nil, List.length_nil, Nat.add_zero, List.take_append_drop]
    rw [set_same hb]
  | v :: vs, i, m, l, hb, hl, h1 => by
    simp only [List.length_cons] at hl
    have hv := h1 v (List.mem_cons_self ..)
    have hlt : o + i < l.length := by omega
    simp only [stCells, hv, if_true]
    have hp : putC m (Addr.add ⟨b, o, none⟩ i) v = some (m.set b (.cells (l.set (o + i) v).toArray t (0, 0))) := by
      rw [add_mk, putC_mk, hb, putAt_cells _ _ _ _ (by simpa using hlt)]
      simp
    rw [hp, Option.bind_some, stCells_row vs (i + 1) _ (l.set (o + i) v) (t := t) (by simp [Mem.set]) (by simp; omega) (fun u hu => h1 u (List.mem_cons_of_mem _ hu)), set_set]
    congr 4
    rw [List.take_set, List.drop_set_of_lt (by omega), show o + (i + 1) = o + i + 1 from by omega, List.take_succ_eq_append_getElem hlt]
    rw [List.set_append_right _ _ (by simp; omega)]
    simp only [List.length_take, Nat.min_eq_left (Nat.le_of_lt hlt), Nat.sub_self, List.set_cons_zero, List.append_assoc, List.cons_append, List.nil_append, List.length_cons]
    rw [show o + i + 1 + vs.length = o + i + (vs.length + 1) from by omega]

/-- an append to a row of the call's own -/
theorem appP_own {t : TypeId} {size bytes : Nat} {zero : List Value} {x : Value} {m : Mem} {K : Value → Mem → Prop} {n k : Nat} {xs news : List Value}
    (h : Own m t size x n xs) (hk : news.length = k * size) (h1 : ∀ v ∈ news, v.oneCell' = true) (hz : zero.length = size)
    (hb : (n + k) * bytes ≤ 140737488355328) (h62 : n + k ≤ 4611686018427387904)
    (hK : ∀ v m', Own m' t size v (n + k) (xs ++ news) → Fr m m' (blkOf x) → (∀ b ∈ blkOf v, b ∈ blkOf x ∨ m b = none) → K v m') : ∃ a cap, x = .slice a n cap ∧ appP size bytes zero t m K a n cap news k := by
  obtain ⟨hlen, hx⟩ := h
  have hzl : ∀ j, ((List.replicate j zero).flatten).length = j * size := fun j => by simp [hz]
  rcases hx with ⟨rfl, rfl⟩ | ⟨bx, cap, tail, rfl, hbx, hcap⟩
  · have hxs : xs = [] := List.eq_nil_of_length_eq_zero (by simpa using hlen)
    subst hxs
    refine ⟨none, 0, rfl, hb, h62, fun hle => ?_, fun hlt => ⟨[], rfl, fun cc bb hcc hbb => ?_⟩⟩
    · have hk0 : k = 0 := by omega
      subst hk0
      have hn0 : news = [] := List.eq_nil_of_length_eq_zero (by simpa using hk)
      subst hn0
      exact hK _ _ ⟨by simp, .inl ⟨rfl, rfl⟩⟩ (Fr.refl _ _) (fun _ hb => .inl hb)
    · refine hK _ _ ⟨by simp [hk], .inr ⟨bb, cc, (List.replicate (cc - (0 + k)) zero).flatten, rfl, by simp [Mem.set], ?_⟩⟩ (Fr.new _ hbb) (fun b' hb' => ?_)
      · simp only [List.nil_append, List.length_append, hk, hzl]
        rw [← Nat.add_mul]; congr 1; omega
      · simp only [blkOf, List.mem_singleton] at hb'; subst hb'; exact .inr hbb
  · simp only [List.length_append] at hcap
    refine ⟨some ⟨bx, 0, none⟩, cap, rfl, hb, h62, fun hle => ?_, fun hlt => ?_⟩
    · have hle' : (n + k) * size ≤ cap * size := Nat.mul_le_mul_right _ hle
      rw [Nat.add_mul] at hle'
      have hst := stCells_row (t := t) (b := bx) (o := 0) news (n * size) m (xs ++ tail) hbx (by simp only [List.length_append]; omega) h1
      refine ⟨_, hst, hK _ _ ⟨by simp [hlen, hk, Nat.add_mul], .inr ⟨bx, cap, tail.drop news.length, rfl, ?_, ?_⟩⟩ (Fr.set (by simp [blkOf])) (fun _ hb => .inl hb)⟩
      · simp only [Mem.set, if_true, Nat.zero_add]
        congr 3
        rw [← hlen, List.take_left', List.append_assoc, List.append_assoc]
        · congr 2
          rw [List.drop_append]
          simp
        · rfl
      · simp only [List.length_append, List.length_drop]; omega
    · have hold : ldS m (some ⟨bx, 0, none⟩) (n * size) = some xs := by
        simp only [ldS]
        rw [ldCells_row hbx (n * size) 0 0 (by simp only [List.length_append]; omega)]
        simp [← hlen]
      refine ⟨xs, hold, fun cc bb hcc hbb => hK _ _ ⟨by simp [hlen, hk, Nat.add_mul], .inr ⟨bb, cc, (List.replicate (cc - (n + k)) zero).flatten, rfl, by simp [Mem.set], ?_⟩⟩ (Fr.new _ hbb) (fun b' hb' => ?_)⟩
      · simp only [List.length_append, hlen, hk, hzl]
        rw [← Nat.add_mul, ← Nat.add_mul]; congr 1; omega
      · simp only [blkOf, List.mem_singleton] at hb'; subst hb'; exact .inr hbb


/-- **'s = append(s, news...)', s the call's own.** -/
theorem app_own {P : Program} {t : TypeId} {size bytes : Nat} {zero : List Value} {x y : Value} {m : Mem} {K : Value → Mem → Prop} {l : Lk K} {l1 : Lk x} {l2 : Lk m} {n k c : Nat} {b : Option Addr} {xs news : List Value}
    (h : Own m t size x n xs) (hy : y = .slice b k c) (hnews : ldS m b (k * size) = some news) (hk : news.length = k * size) (h1 : ∀ v ∈ news, v.oneCell' = true) (hz : zero.length = size)
    (hb : (n + k) * bytes ≤ 140737488355328) (h62 : n + k ≤ 4611686018427387904)
    (hK : ∀ v m', Own m' t size v (n + k) (xs ++ news) → Fr m m' (blkOf x) → (∀ b ∈ blkOf v, b ∈ blkOf x ∨ m b = none) → K v m') : appQ P t size bytes zero x y m K l l1 l2 := by
  subst hy
  obtain ⟨a, cap, rfl, ha⟩ := appP_own (bytes := bytes) (zero := zero) h hk h1 hz hb h62 hK
  exact ⟨news, hnews, ha⟩
/-- a string's bytes are appended -/
def apsQ (P : Program) (t : TypeId) (x y : Value) (m : Mem) (K : Value → Mem → Prop) (_ : Lk K) (_ : Lk x) (_ : Lk m) : Prop := xs P (.apps t) [x, y] m K
theorem xs_apps {P : Program} {m : Mem} (t : TypeId) (x y : Value) (K : Value → Mem → Prop) (l : Lk K) : xsP P (.apps t) [x, y] m K l = apsQ P t x y m K ⟨⟩ ⟨⟩ ⟨⟩ := rfl
attribute [go_sem] xs_apps
theorem aps_own {P : Program} {t : TypeId} {x : Value} {m : Mem} {K : Value → Mem → Prop} {l : Lk K} {l1 : Lk x} {l2 : Lk m} {n : Nat} {s : ByteArray} {xs : List Value}
    (h : Own m t 1 x n xs) (hb : n + s.size ≤ 140737488355328)
    (hK : ∀ v m', Own m' t 1 v (n + s.size) (xs ++ s.data.toList.map fun (c : UInt8) => Value.int .u8 c.toNat) → Fr m m' (blkOf x) → (∀ b ∈ blkOf v, b ∈ blkOf x ∨ m b = none) → K v m') : apsQ P t x (.string s) m K l l1 l2 := by
  obtain ⟨a, cap, rfl, ha⟩ := appP_own (bytes := 1) (zero := [.int .u8 0]) (k := s.size) h (news := s.data.toList.map fun (c : UInt8) => Value.int .u8 c.toNat) (by rw [List.length_map, Array.length_toList, Nat.mul_one]; rfl) (by
    intro v hv
    obtain ⟨c, _, rfl⟩ := List.mem_map.1 hv
    rfl) rfl (by omega) (by omega) hK
  exact ha

end Go.Fw
