import Derived.Test.YtnpldldflbeogaaGrOut
/-! What the answer says of nodes and edges. -/
namespace Go.Fw
section
variable {n : Nat} {E : Nat → List Int}

structure Ans (n : Nat) (E : Nat → List Int) (D : Nat → Prop) (l : List (List Nat)) : Prop where
  isF : ∀ p (hp : p < l.length), ∃ f : Nat → Bool, l[p] = (List.range n).filter f
  new : ∀ p (hp : p < l.length), ∀ x ∈ l[p], ¬ D x
  scc : ∀ p (hp : p < l.length), ∀ x ∈ l[p], ∀ y, y < n → (y ∈ l[p] ↔ Scc n E x y)
  dis : ∀ p q (hp : p < l.length) (hq : q < l.length), p < q → ∀ x ∈ l[p], x ∉ l[q]
  up : ∀ p (hp : p < l.length), ∀ x ∈ l[p], ∀ y, Adj n E x y → D y ∨ ∃ q, ∃ hq : q < l.length, q ≤ p ∧ y ∈ l[q]
  all : ∀ x, x < n → D x ∨ ∃ p, ∃ hp : p < l.length, x ∈ l[p]

/-- how many nodes outside D one comes to -/
noncomputable def outs (n : Nat) (E : Nat → List Int) (D : Nat → Prop) (u : Nat) : Nat := by
  classical exact ((List.range n).filter fun v => decide (Rch n E u v ∧ ¬ D v)).length
theorem filter_len_lt {l : List Nat} {f g : Nat → Bool} (h : ∀ x ∈ l, f x = true → g x = true) {y : Nat} (hy : y ∈ l) (h1 : f y = false) (h2 : g y = true) : (l.filter f).length < (l.filter g).length := by
  induction l with
  | nil => cases hy
  | cons a r ih =>
    have hle : (r.filter f).length ≤ (r.filter g).length := by
      have : ∀ r : List Nat, (∀ x ∈ r, f x = true → g x = true) → (r.filter f).length ≤ (r.filter g).length := by
        intro r
        induction r with
        | nil => intro _; simp
        | cons b r ih =>
          intro h
          have ih := ih fun x hx => h x (List.mem_cons_of_mem _ hx)
          simp only [List.filter_cons]
          cases hb : f b with
          | true => rw [h b (List.mem_cons_self ..) hb]; simpa using ih
          | false => cases hgb : g b <;> simp <;> omega
      exact this r fun x hx => h x (List.mem_cons_of_mem _ hx)
    simp only [List.filter_cons]
    rcases List.mem_cons.1 hy with rfl | hy
    · rw [h1, h2]; simp; omega
    · have ih := ih (fun x hx => h x (List.mem_cons_of_mem _ hx)) hy
      cases hb : f a with
      | true => rw [h a (List.mem_cons_self ..) hb]; simpa using ih
      | false => cases hgb : g a <;> simp <;> omega
theorem free_ex (D : Nat → Prop) : ∀ (c u : Nat), outs n E D u ≤ c → u < n → ¬ D u → ∃ i, Free n E D i := by
  classical
  intro c
  induction c using Nat.strongRecOn with
  | _ c ih =>
    intro u hc hu hD
    by_cases h : ∀ j, j < n → Rch n E u j → Rch n E j u ∨ D j
    · exact ⟨u, hu, hD, h⟩
    · have ⟨j, hj, hr, hnr, hDj⟩ : ∃ j, j < n ∧ Rch n E u j ∧ ¬ Rch n E j u ∧ ¬ D j := by
        apply Classical.byContradiction
        intro hn
        exact h fun j hj hr => Classical.byContradiction fun hh => hn ⟨j, hj, hr, fun h1 => hh (.inl h1), fun h1 => hh (.inr h1)⟩
      have hlt : outs n E D j < outs n E D u := by
        unfold outs
        refine filter_len_lt (y := u) (fun x _ hx => ?_) (by simpa using hu) ?_ ?_
        · have := of_decide_eq_true hx
          exact decide_eq_true ⟨hr.trans this.1, this.2⟩
        · exact decide_eq_false fun h => hnr h.1
        · exact decide_eq_true ⟨.refl _, hD⟩
      exact ih _ (by omega) j (Nat.le_refl _) hj hDj
theorem Out.ans {D : Nat → Prop} {l : List (List Nat)} (h : Out n E D l) (hD : ∀ x y, D x → Scc n E x y → D y) : Ans n E D l := by
  induction h with
  | @nil D h =>
    refine ⟨fun p hp => by simp at hp, fun p hp => by simp at hp, fun p hp => by simp at hp, fun p q hp => by simp at hp, fun p hp => by simp at hp, fun x hx => .inl ?_⟩
    apply Classical.byContradiction
    intro hn
    obtain ⟨i, hi⟩ := free_ex D _ x (Nat.le_refl _) hx hn
    exact h i hi
  | @cons D i f r h1 h2 h3 h4 ih =>
    have mem : ∀ x, x ∈ (List.range n).filter f ↔ x < n ∧ Scc n E i x := fun x => by
      simp only [List.mem_filter, List.mem_range]
      constructor
      · rintro ⟨a, b⟩; exact ⟨a, (h3 x a).1 b⟩
      · rintro ⟨a, b⟩; exact ⟨a, (h3 x a).2 b⟩
    have sc : ∀ {x y z : Nat}, Scc n E x y → Scc n E y z → Scc n E x z := fun a b => ⟨a.1.trans b.1, b.2.trans a.2⟩
    have sy : ∀ {x y : Nat}, Scc n E x y → Scc n E y x := fun a => ⟨a.2, a.1⟩
    have lt : ∀ {x y : Nat}, Rch n E x y → x < n → y < n := fun h hx => closed_rch (T := fun y => y < n) (fun _ _ _ ha => ha.2.1) h hx
    have a := ih (by
      rintro x y (h | ⟨hx, h⟩) hs
      · exact .inl (hD x y h hs)
      · exact .inr ⟨lt hs.1 hx, sc h hs⟩)
    refine ⟨fun p hp => ?_, fun p hp x hx => ?_, fun p hp x hx y hy => ?_, fun p q hp hq hpq x hx => ?_, fun p hp x hx y hy => ?_, fun x hx => ?_⟩
    · cases p with
      | zero => exact ⟨f, rfl⟩
      | succ p => exact a.isF p (by simpa using hp)
    · cases p with
      | zero => exact fun hd => h1.2.1 (hD x i hd (sy ((mem x).1 hx).2))
      | succ p => exact fun hd => a.new p (by simpa using hp) x hx (.inl hd)
    · cases p with
      | zero =>
        have hx := ((mem x).1 hx).2
        refine (mem y).trans ⟨fun h => sc (sy hx) h.2, fun h => ⟨hy, sc hx h⟩⟩
      | succ p => exact a.scc p (by simpa using hp) x hx y hy
    · cases q with
      | zero => omega
      | succ q =>
        cases p with
        | zero =>
          intro hx'
          exact a.new q (by simpa using hq) x hx' (.inr ((mem x).1 hx))
        | succ p => exact a.dis p q (by simpa using hp) (by simpa using hq) (by omega) x hx
    · cases p with
      | zero =>
        have hx := (mem x).1 hx
        rcases h1.2.2 y hy.2.1 (hx.2.1.trans (.one hy)) with h | h
        · exact .inr ⟨0, by simp, Nat.le_refl _, (mem y).2 ⟨hy.2.1, hx.2.1.trans (.one hy), h⟩⟩
        · exact .inl h
      | succ p =>
        rcases a.up p (by simpa using hp) x hx y hy with (h | h) | ⟨q, hq, hqp, h⟩
        · exact .inl h
        · exact .inr ⟨0, by simp, by omega, (mem y).2 h⟩
        · exact .inr ⟨q + 1, by simpa using hq, by omega, h⟩
    · rcases a.all x hx with (h | h) | ⟨p, hp, h⟩
      · exact .inl h
      · exact .inr ⟨0, by simp, (mem x).2 h⟩
      · exact .inr ⟨p + 1, by simpa using hp, h⟩

theorem Out.ans0 {l : List (List Nat)} (h : Out n E (fun _ => False) l) : Ans n E (fun _ => False) l := h.ans (fun _ _ h _ => h)
/-- where a node stands -/
theorem Ans.pos {l : List (List Nat)} (a : Ans n E (fun _ => False) l) : ∃ pos : Nat → Nat, (∀ x, x < n → ∃ h : pos x < l.length, x ∈ l[pos x]) ∧ (∀ p (hp : p < l.length), ∀ x ∈ l[p], pos x = p) ∧
    (∀ x y, Adj n E x y → pos y ≤ pos x) ∧ (∀ x y, x < n → y < n → (pos x = pos y ↔ Scc n E x y)) := by
  classical
  have hall : ∀ x, ∃ p, x < n → ∃ h : p < l.length, x ∈ l[p] := fun x => by
    by_cases h : x < n
    · rcases a.all x h with h' | ⟨p, hp, h'⟩
      · exact h'.elim
      · exact ⟨p, fun _ => ⟨hp, h'⟩⟩
    · exact ⟨0, fun h' => absurd h' h⟩
  refine ⟨fun x => (hall x).choose, fun x hx => (hall x).choose_spec hx, fun p hp x hx => ?_, fun x y ha => ?_, fun x y hx hy => ?_⟩
  · have hxn : x < n := by
      obtain ⟨f, e⟩ := a.isF p hp
      rw [e] at hx
      simpa using (List.mem_filter.1 hx).1
    obtain ⟨h1, h2⟩ := (hall x).choose_spec hxn
    rcases Nat.lt_trichotomy (hall x).choose p with h | h | h
    · exact absurd hx (a.dis _ _ h1 hp h x h2)
    · exact h
    · exact absurd h2 (a.dis _ _ hp h1 h x hx)
  · obtain ⟨h1, h2⟩ := (hall x).choose_spec ha.1
    obtain ⟨h3, h4⟩ := (hall y).choose_spec ha.2.1
    rcases a.up _ h1 x h2 y ha with h | ⟨q, hq, hle, hm⟩
    · exact h.elim
    · rcases Nat.lt_trichotomy (hall y).choose q with h | h | h
      · exact absurd hm (a.dis _ _ h3 hq h y h4)
      · show (hall y).choose ≤ (hall x).choose; omega
      · exact absurd h4 (a.dis _ _ hq h3 h y hm)
  · obtain ⟨h1, h2⟩ := (hall x).choose_spec hx
    obtain ⟨h3, h4⟩ := (hall y).choose_spec hy
    constructor
    · intro e
      have : y ∈ l[(hall x).choose] := by simp only [e]; exact h4
      exact (a.scc _ h1 x h2 y hy).1 this
    · intro h
      have hm := (a.scc _ h1 x h2 y hy).2 h
      rcases Nat.lt_trichotomy (hall x).choose (hall y).choose with h | h | h
      · exact absurd h4 (a.dis _ _ h1 h3 h y hm)
      · exact h
      · exact absurd hm (a.dis _ _ h3 h1 h y h4)
noncomputable def lft (n : Nat) (D : Nat → Prop) : Nat := ((List.range n).filter fun v => @decide (¬ D v) (Classical.propDecidable _)).length
theorem lft_lt {D D' : Nat → Prop} {i : Nat} (hi : i < n) (h : ∀ x, D x → D' x) (h1 : ¬ D i) (h2 : D' i) : lft n D' < lft n D :=
  filter_len_lt (l := List.range n) (y := i) (fun x _ hx => (@decide_eq_true _ (Classical.propDecidable _) fun hd => (@of_decide_eq_true _ (Classical.propDecidable _) hx) (h x hd))) (by simpa using hi)
    (@decide_eq_false _ (Classical.propDecidable _) fun hn => hn h2) (@decide_eq_true _ (Classical.propDecidable _) h1)
theorem Out.len' {D : Nat → Prop} {l : List (List Nat)} (h : Out n E D l) : l.length ≤ lft n D := by
  induction h with
  | nil => simp
  | @cons D i f r h1 h2 h3 h4 ih =>
    have := lft_lt (D := D) (D' := fun x => D x ∨ (x < n ∧ Scc n E i x)) (i := i) h1.1 (fun x hx => .inl hx) h1.2.1 (.inr ⟨h1.1, .refl _, .refl _⟩)
    simp only [List.length_cons]
    omega
theorem Out.len {D : Nat → Prop} {l : List (List Nat)} (h : Out n E D l) : l.length ≤ n := by
  refine Nat.le_trans h.len' ?_
  have := List.length_filter_le (fun v => @decide (¬ D v) (Classical.propDecidable _)) (List.range n)
  rwa [List.length_range] at this
theorem Ans.lt {D : Nat → Prop} {l : List (List Nat)} (a : Ans n E D l) {p : Nat} (hp : p < l.length) : (∀ x ∈ l[p], x < n) ∧ l[p].Pairwise (· < ·) ∧ l[p].length ≤ n := by
  obtain ⟨f, e⟩ := a.isF p hp
  rw [e]
  refine ⟨fun x hx => by simpa using (List.mem_filter.1 hx).1, List.Pairwise.filter _ List.pairwise_lt_range, ?_⟩
  have := List.length_filter_le f (List.range n)
  rwa [List.length_range] at this
theorem pw_notin {l : List Nat} (h : l.Pairwise (· < ·)) {j : Nat} (hj : j < l.length) : l[j] ∉ l.take j ∧ ∀ i (hi : i < j), l[i] < l[j] := by
  have hlt : ∀ i (hi : i < j), l[i] < l[j] := fun i hi => (List.pairwise_iff_getElem.1 h) i j (by omega) hj hi
  refine ⟨fun hm => ?_, hlt⟩
  obtain ⟨i, hi, e⟩ := List.mem_iff_getElem.1 hm
  rw [List.length_take] at hi
  rw [List.getElem_take] at e
  have := hlt i (by omega)
  omega
end
end Go.Fw
