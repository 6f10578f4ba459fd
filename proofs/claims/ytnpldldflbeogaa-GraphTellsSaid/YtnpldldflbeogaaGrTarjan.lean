import Derived.Test.YtnpldldflbeogaaFwMem
/-! Strong components: the search, as plain lists and numbers. -/
namespace Go.Fw

structure TS where
  idx : Nat → Int
  low : Nat → Int
  opn : Nat → Bool
  part : Nat → Int
  row : List Nat
  many : Nat
  clock : Nat

def TS.come (s : TS) (v : Nat) : TS :=
  { s with clock := s.clock + 1, idx := Up s.idx v (s.clock + 1), low := Up s.low v (s.clock + 1), opn := Up s.opn v true, row := s.row ++ [v] }
def TS.popN (s : TS) (l row : List Nat) : TS :=
  { s with row := row, opn := fun x => if x ∈ l then false else s.opn x, part := fun x => if x ∈ l then s.many else s.part x }
/-- v's part is told -/
def TS.pop (s : TS) (v : Nat) (pre suf : List Nat) : TS := { s.popN (v :: suf) pre with many := s.many + 1 }
def TS.lower (s : TS) (v : Nat) (x : Int) : TS := { s with low := Up s.low v (min (s.low v) x) }

section
variable {n : Nat} {E : Nat → List Int}

def Adj (n : Nat) (E : Nat → List Int) (u v : Nat) : Prop := u < n ∧ v < n ∧ (v : Int) ∈ E u
inductive Rch (n : Nat) (E : Nat → List Int) : Nat → Nat → Prop
  | refl (u : Nat) : Rch n E u u
  | step {u v w : Nat} : Adj n E u v → Rch n E v w → Rch n E u w
theorem Rch.trans {u v w : Nat} (h : Rch n E u v) (g : Rch n E v w) : Rch n E u w := by
  induction h with
  | refl => exact g
  | step a _ ih => exact .step a (ih g)
theorem Rch.one {u v : Nat} (h : Adj n E u v) : Rch n E u v := .step h (.refl v)
def Scc (n : Nat) (E : Nat → List Int) (u v : Nat) : Prop := Rch n E u v ∧ Rch n E v u
theorem closed_rch {T : Nat → Prop} (h : ∀ u v, T u → Adj n E u v → T v) {u v : Nat} (hr : Rch n E u v) (hu : T u) : T v := by
  induction hr with
  | refl => exact hu
  | step a _ ih => exact ih (h _ _ hu a)

/-- a node under way, its next edge, and what hangs behind it in the row -/
structure It where
  node : Nat
  edge : Nat
  rest : List Nat

def rowOf (path : List It) : List Nat := (path.reverse.map fun i => i.node :: i.rest).flatten
theorem rowOf_nil : rowOf [] = [] := rfl
theorem rowOf_cons (i : It) (r : List It) : rowOf (i :: r) = rowOf r ++ i.node :: i.rest := by simp [rowOf]

def cnt (f : Nat → Int) : Nat → Nat
  | 0 => 0
  | n + 1 => cnt f n + if f n = 0 then 0 else 1
theorem cnt_le (f : Nat → Int) : ∀ n, cnt f n ≤ n
  | 0 => Nat.le_refl _
  | n + 1 => by have := cnt_le f n; simp only [cnt]; split <;> omega
theorem cnt_up (f : Nat → Int) (v : Nat) (x : Int) (hv : f v = 0) (hx : x ≠ 0) : ∀ n, cnt (Up f v x) n = cnt f n + if v < n then 1 else 0
  | 0 => rfl
  | n + 1 => by
    simp only [cnt, cnt_up f v x hv hx n]
    by_cases h : n = v
    · subst h; rw [Up_self]; simp [hv, hx]
    · rw [Up_ne _ h]
      by_cases h1 : v < n
      · have h2 : v < n + 1 := by omega
        simp only [h1, h2, if_true]; omega
      · have h2 : ¬ v < n + 1 := by omega
        simp only [h1, h2, if_false]; omega
/-- what the nodes to come may cost -/
def cost (E : Nat → List Int) (f : Nat → Int) : Nat → Nat
  | 0 => 0
  | n + 1 => cost E f n + if f n = 0 then (E n).length + 2 else 0
theorem cost_up (f : Nat → Int) (v : Nat) (x : Int) (hv : f v = 0) (hx : x ≠ 0) : ∀ n, cost E (Up f v x) n + (if v < n then (E v).length + 2 else 0) = cost E f n
  | 0 => rfl
  | n + 1 => by
    have ih := cost_up f v x hv hx n
    simp only [cost]
    by_cases h : n = v
    · subst h; rw [Up_self]; simp only [hv, hx, if_true, if_false, Nat.lt_succ_self] at ih ⊢; simp at ih; omega
    · rw [Up_ne _ h]
      by_cases h1 : v < n
      · have h2 : v < n + 1 := by omega
        simp only [h1, h2, if_true] at ih ⊢; omega
      · have h2 : ¬ v < n + 1 := by omega
        simp only [h1, h2, if_false] at ih ⊢; omega
def costP (E : Nat → List Int) (path : List It) : Nat := (path.map fun i => (E i.node).length - i.edge + 1).sum

/-- a node whose part is told -/
def Told (n : Nat) (s : TS) (v : Nat) : Prop := v < n ∧ s.idx v ≠ 0 ∧ v ∉ s.row

/-- what is seen over an edge from a done place -/
def Seen (s : TS) (w : Nat) (z : Nat) : Prop := s.idx z ≠ 0 ∧ (z ∈ s.row → s.low w ≤ s.idx z)

structure ItOK (n : Nat) (E : Nat → List Int) (s : TS) (i : It) : Prop where
  lt : i.node < n
  e : i.edge ≤ (E i.node).length
  lowle : s.low i.node ≤ s.idx i.node
  wit : ∃ u ∈ s.row, s.low i.node = s.idx u ∧ Rch n E i.node u
  edges : ∀ z, z < n → (z : Int) ∈ (E i.node).take i.edge → Seen s i.node z
  rest : ∀ y ∈ i.rest, Rch n E y i.node ∧ Rch n E i.node y ∧ ∀ z, Adj n E y z → Seen s i.node z

def Chain (n : Nat) (E : Nat → List Int) : List It → Prop
  | a :: b :: r => Adj n E b.node a.node ∧ Chain n E (b :: r)
  | _ => True

structure J (n : Nat) (E : Nat → List Int) (s : TS) (path : List It) : Prop where
  row : s.row = rowOf path
  lt : ∀ x ∈ s.row, x < n
  pos : ∀ v, 0 ≤ s.idx v
  srt : s.row.Pairwise fun a b => s.idx a < s.idx b
  opn : ∀ v, v < n → (s.opn v = true ↔ v ∈ s.row)
  vis : ∀ x ∈ s.row, s.idx x ≠ 0
  top : ∀ x, s.idx x ≤ s.clock
  clock : s.clock = cnt s.idx n
  many : s.many + s.row.length ≤ s.clock
  clo : ∀ u v, Told n s u → Adj n E u v → Told n s v
  part : ∀ u v, Told n s u → Told n s v → (s.part u = s.part v ↔ Scc n E u v)
  prange : ∀ u, Told n s u → 0 ≤ s.part u ∧ s.part u < s.many
  psur : ∀ p : Nat, p < s.many → ∃ u, Told n s u ∧ s.part u = p
  up : ∀ u v, Told n s u → Adj n E u v → s.part v ≤ s.part u
  its : ∀ i ∈ path, ItOK n E s i
  chain : Chain n E path

theorem mem_rowOf {path : List It} {x : Nat} : x ∈ rowOf path ↔ ∃ i ∈ path, x = i.node ∨ x ∈ i.rest := by
  simp only [rowOf, List.mem_flatten, List.mem_map, List.mem_reverse]
  constructor
  · rintro ⟨l, ⟨i, hi, rfl⟩, hx⟩; exact ⟨i, hi, by simpa using hx⟩
  · rintro ⟨i, hi, hx⟩; exact ⟨_, ⟨i, hi, rfl⟩, by simpa using hx⟩

theorem J.start (n : Nat) (E : Nat → List Int) (low part : Nat → Int) : J n E ⟨fun _ => 0, low, fun _ => false, part, [], 0, 0⟩ [] := by
  refine ⟨rfl, by simp, fun v => Int.le_refl 0, by simp, by simp, by simp, fun x => Int.le_refl 0, ?_, by simp, ?_, ?_, ?_, ?_, ?_, by simp, trivial⟩
  · have : ∀ n, cnt (fun _ => 0) n = 0 := by intro n; induction n <;> simp_all [cnt]
    simp [this]
  · rintro u v ⟨_, h, _⟩; exact absurd rfl h
  · rintro u v ⟨_, h, _⟩; exact absurd rfl h
  · rintro u ⟨_, h, _⟩; exact absurd rfl h
  · intro p hp; simp at hp
  · rintro u v ⟨_, h, _⟩; exact absurd rfl h

/-- a new node is come to -/
theorem J.come {s : TS} {path : List It} (j : J n E s path) {v : Nat} (hv : v < n) (h0 : s.idx v = 0) (hadj : ∀ i r, path = i :: r → Adj n E i.node v) : J n E (s.come v) (⟨v, 0, []⟩ :: path) := by
  have hnr : v ∉ s.row := fun h => j.vis v h h0
  have hcl : (0 : Int) ≤ s.clock := Int.natCast_nonneg _
  have hidx : ∀ x, x ≠ v → (s.come v).idx x = s.idx x := fun x hx => Up_ne _ hx
  have hidv : (s.come v).idx v = s.clock + 1 := Up_self _ _ _
  have hlowv : (s.come v).low v = s.clock + 1 := Up_self _ _ _
  have hne : ∀ x ∈ s.row, x ≠ v := fun x hx e => hnr (e ▸ hx)
  have htold : ∀ u, Told n (s.come v) u ↔ Told n s u := by
    intro u
    constructor
    · rintro ⟨h1, h2, h3⟩
      have hu : u ≠ v := fun e => h3 (by simp [TS.come, e])
      rw [hidx u hu] at h2
      exact ⟨h1, h2, fun h => h3 (by simp [TS.come, h])⟩
    · rintro ⟨h1, h2, h3⟩
      have hu : u ≠ v := fun e => h2 (e ▸ h0)
      exact ⟨h1, by rw [hidx u hu]; exact h2, by simp [TS.come, h3, hu]⟩
  have hseen : ∀ w z, w ≠ v → Seen s w z → Seen (s.come v) w z := by
    rintro w z hw ⟨h1, h2⟩
    have hz : z ≠ v := fun e => h1 (e ▸ h0)
    refine ⟨by rw [hidx z hz]; exact h1, fun hz' => ?_⟩
    have : z ∈ s.row := by simpa [TS.come, hz] using hz'
    rw [hidx z hz]
    show Up s.low v _ w ≤ _
    rw [Up_ne _ hw]; exact h2 this
  refine ⟨by rw [rowOf_cons, ← j.row]; rfl, ?_, ?_, ?_, ?_, ?_, ?_, ?_, ?_, ?_, ?_, ?_, ?_, ?_, ?_, ?_⟩
  · intro x hx
    rcases (by simpa [TS.come] using hx : x ∈ s.row ∨ x = v) with h | h
    · exact j.lt x h
    · exact h ▸ hv
  · intro x
    by_cases e : x = v
    · rw [e, hidv]; omega
    · rw [hidx x e]; exact j.pos x
  · show (s.row ++ [v]).Pairwise _
    rw [List.pairwise_append]
    refine ⟨j.srt.imp_of_mem fun ha hb h => by rw [hidx _ (hne _ ha), hidx _ (hne _ hb)]; exact h, by simp, fun a ha b hb => ?_⟩
    simp only [List.mem_singleton] at hb; subst hb
    rw [hidx _ (hne _ ha), hidv]
    have := j.top a; omega
  · intro x hx
    show Up s.opn v true x = true ↔ x ∈ s.row ++ [v]
    by_cases e : x = v
    · subst e; simp [Up_self]
    · rw [Up_ne _ e, j.opn x hx]; simp [e]
  · intro x hx
    rcases (by simpa [TS.come] using hx : x ∈ s.row ∨ x = v) with h | h
    · rw [hidx x (hne x h)]; exact j.vis x h
    · rw [h, hidv]; omega
  · intro x
    show _ ≤ ((s.clock + 1 : Nat) : Int)
    by_cases e : x = v
    · rw [e, hidv]; omega
    · rw [hidx x e]; have := j.top x; omega
  · show s.clock + 1 = cnt (Up s.idx v _) n
    rw [cnt_up _ _ _ h0 (by omega), if_pos hv, j.clock]
  · have := j.many; simp only [TS.come, List.length_append, List.length_cons, List.length_nil]; omega
  · intro a b ha hab
    rw [htold] at ha ⊢; exact j.clo a b ha hab
  · intro a b ha hb
    rw [htold] at ha hb; exact j.part a b ha hb
  · intro a ha
    rw [htold] at ha; exact j.prange a ha
  · intro p hp
    obtain ⟨u, hu, he⟩ := j.psur p hp
    exact ⟨u, (htold u).2 hu, he⟩
  · intro a b ha hab
    rw [htold] at ha; exact j.up a b ha hab
  · intro i hi
    rcases List.mem_cons.1 hi with rfl | hi
    · refine ⟨hv, Nat.zero_le _, by rw [hidv, hlowv]; exact Int.le_refl _, ⟨v, by simp [TS.come], by rw [hidv, hlowv], .refl v⟩, by simp, by simp⟩
    · have ho := j.its i hi
      have hnode : i.node ∈ s.row := by rw [j.row, mem_rowOf]; exact ⟨i, hi, .inl rfl⟩
      have hw := hne _ hnode
      have hlow : (s.come v).low i.node = s.low i.node := Up_ne _ hw
      obtain ⟨u, hu, h1, h2⟩ := ho.wit
      refine ⟨ho.lt, ho.e, by rw [hlow, hidx _ hw]; exact ho.lowle, ⟨u, by simp [TS.come, hu], by rw [hlow, hidx _ (hne u hu)]; exact h1, h2⟩, fun z hz hm => hseen _ z hw (ho.edges z hz hm), fun y hy => ?_⟩
      obtain ⟨a, b, c⟩ := ho.rest y hy
      exact ⟨a, b, fun z hz => hseen _ z hw (c z hz)⟩
  · cases path with
    | nil => trivial
    | cons i r => exact ⟨hadj i r rfl, j.chain⟩


/-- the top's next edge is looked at: nothing but what is seen -/
theorem J.pass {s : TS} {i : It} {r : List It} (j : J n E s (i :: r)) (he : i.edge < (E i.node).length)
    (hs : ∀ z, z < n → (z : Int) = (E i.node)[i.edge] → Seen s i.node z) : J n E s ({ i with edge := i.edge + 1 } :: r) := by
  have ho := j.its i (List.mem_cons_self ..)
  refine { j with row := by rw [j.row, rowOf_cons, rowOf_cons], its := fun k hk => ?_, chain := ?_ }
  · rcases List.mem_cons.1 hk with rfl | hk
    · refine ⟨ho.lt, he, ho.lowle, ho.wit, fun z hz hm => ?_, ho.rest⟩
      simp only [List.take_succ_eq_append_getElem he, List.mem_append, List.mem_singleton] at hm
      rcases hm with hm | hm
      · exact ho.edges z hz hm
      · exact hs z hz hm
    · exact j.its k (List.mem_cons_of_mem _ hk)
  · cases r with
    | nil => trivial
    | cons b r => exact j.chain

theorem lower_idx (s : TS) (v : Nat) (x : Int) : (s.lower v x).idx = s.idx := rfl
theorem Seen.lower {s : TS} {w z v : Nat} {x : Int} (h : Seen s w z) : Seen (s.lower v x) w z := by
  refine ⟨h.1, fun hz => Int.le_trans ?_ (h.2 hz)⟩
  show Up s.low v _ w ≤ _
  by_cases e : w = v
  · subst e; rw [Up_self]; omega
  · rw [Up_ne _ e]; exact Int.le_refl _

/-- a node's low sinks to that of a node in the row which it comes to -/
theorem J.lower {s : TS} {path : List It} (j : J n E s path) {v : Nat} {x : Int} (hx : ∃ u ∈ s.row, x = s.idx u ∧ Rch n E v u) : J n E (s.lower v x) path := by
  refine { j with its := fun k hk => ?_ }
  have ho := j.its k hk
  have hle : (s.lower v x).low k.node ≤ s.low k.node := by
    show Up s.low v _ _ ≤ _
    by_cases e : k.node = v
    · rw [e, Up_self]; omega
    · rw [Up_ne _ e]; exact Int.le_refl _
  refine ⟨ho.lt, ho.e, Int.le_trans hle ho.lowle, ?_, fun z hz hm => (ho.edges z hz hm).lower, fun y hy => ?_⟩
  · by_cases e : k.node = v
    · obtain ⟨u, hu, h1, h2⟩ := ho.wit
      obtain ⟨u', hu', h1', h2'⟩ := hx
      by_cases hm : s.low v ≤ x
      · refine ⟨u, hu, ?_, h2⟩
        show Up s.low v _ _ = _
        rw [e, Up_self, Int.min_eq_left hm, ← e]; exact h1
      · refine ⟨u', hu', ?_, e ▸ h2'⟩
        show Up s.low v _ _ = _
        rw [e, Up_self, Int.min_eq_right (by omega)]; exact h1'
    · obtain ⟨u, hu, h1, h2⟩ := ho.wit
      refine ⟨u, hu, ?_, h2⟩
      show Up s.low v _ _ = _
      rw [Up_ne _ e]; exact h1
  · obtain ⟨a, b, c⟩ := ho.rest y hy
    exact ⟨a, b, fun z hz => (c z hz).lower⟩

/-- nodes further up the row come to by those below -/
theorem J.reach_up {s : TS} : ∀ {path : List It}, (∀ i ∈ path, ItOK n E s i) → Chain n E path → ∀ {i : It} {r : List It}, path = i :: r → ∀ k ∈ r, Rch n E k.node i.node
  | [], _, _, i, r, e, k, hk => by cases e
  | a :: [], _, _, i, r, e, k, hk => by cases e; cases hk
  | a :: b :: r', hi, hc, i, r, e, k, hk => by
    cases e
    rcases List.mem_cons.1 hk with rfl | hk
    · exact .one hc.1
    · exact (J.reach_up (path := b :: r') (fun i h => hi i (List.mem_cons_of_mem _ h)) hc.2 rfl k hk).trans (.one hc.1)

/-- all edges of the top are done, and it comes to one further down: it is hung behind the one ahead -/
theorem J.hang {s : TS} {i b : It} {r : List It} (j : J n E s (i :: b :: r)) (he : i.edge = (E i.node).length) (hlow : s.low i.node ≠ s.idx i.node) :
    J n E (s.lower b.node (s.low i.node)) ({ b with rest := b.rest ++ i.node :: i.rest } :: r) := by
  have hi := j.its i (List.mem_cons_self ..)
  have hb := j.its b (List.mem_cons_of_mem _ (List.mem_cons_self ..))
  have hadj := j.chain.1
  obtain ⟨u, hu, hlu, hru⟩ := hi.wit
  have hrow : s.row = rowOf r ++ (b.node :: b.rest) ++ (i.node :: i.rest) := by rw [j.row, rowOf_cons, rowOf_cons]
  -- u stands below i in the row
  have hulow : u ∈ rowOf r ++ (b.node :: b.rest) := by
    rw [hrow] at hu
    rcases List.mem_append.1 hu with h | h
    · exact h
    · exfalso
      have h1 : s.idx u < s.idx i.node := by have := hi.lowle; omega
      have hs := j.srt
      rw [hrow, List.pairwise_append] at hs
      rcases List.mem_cons.1 h with h | h
      · subst h; omega
      · have := (List.pairwise_cons.1 hs.2.1).1 u h
        omega
  -- u comes to b
  have hub : Rch n E u b.node := by
    rcases List.mem_append.1 hulow with h | h
    · obtain ⟨k, hk, h⟩ := mem_rowOf.1 h
      have hkb : Rch n E k.node b.node := J.reach_up (path := b :: r) (fun x hx => j.its x (List.mem_cons_of_mem _ hx)) j.chain.2 rfl k hk
      rcases h with rfl | h
      · exact hkb
      · exact ((j.its k (List.mem_cons_of_mem _ (List.mem_cons_of_mem _ hk))).rest u h).1.trans hkb
    · rcases List.mem_cons.1 h with rfl | h
      · exact .refl _
      · exact (hb.rest u h).1
  have hib : Rch n E i.node b.node := hru.trans hub
  have j1 := j.lower (v := b.node) (x := s.low i.node) ⟨u, hu, hlu, (Rch.one hadj).trans hru⟩
  have hb1 := j1.its b (List.mem_cons_of_mem _ (List.mem_cons_self ..))
  have hlowb : (s.lower b.node (s.low i.node)).low b.node ≤ s.low i.node := by
    show Up s.low b.node _ _ ≤ _
    rw [Up_self]; omega
  have hseen : ∀ z, Seen s i.node z → Seen (s.lower b.node (s.low i.node)) b.node z := fun z h => ⟨h.1, fun hz => Int.le_trans hlowb (h.2 hz)⟩
  refine { j1 with row := ?_, its := fun k hk => ?_, chain := ?_ }
  · rw [j1.row, rowOf_cons, rowOf_cons, rowOf_cons]; simp
  · rcases List.mem_cons.1 hk with rfl | hk
    · refine ⟨hb1.lt, hb1.e, hb1.lowle, hb1.wit, hb1.edges, fun y hy => ?_⟩
      rcases List.mem_append.1 hy with hy | hy
      · exact hb1.rest y hy
      · rcases List.mem_cons.1 hy with rfl | hy
        · refine ⟨hib, .one hadj, fun z hz => hseen z (hi.edges z hz.2.1 ?_)⟩
          rw [he, List.take_length]; exact hz.2.2
        · obtain ⟨h1, h2, h3⟩ := hi.rest y hy
          exact ⟨h1.trans hib, (Rch.one hadj).trans h2, fun z hz => hseen z (h3 z hz)⟩
    · exact j1.its k (List.mem_cons_of_mem _ (List.mem_cons_of_mem _ hk))
  · cases r with
    | nil => trivial
    | cons c r => exact j.chain.2

/-- .. it comes to none further down: its part is told -/
theorem J.tell {s : TS} {i : It} {r : List It} (j : J n E s (i :: r)) (he : i.edge = (E i.node).length) (hlow : s.low i.node = s.idx i.node) :
    J n E (s.pop i.node (rowOf r) i.rest) r := by
  have hi := j.its i (List.mem_cons_self ..)
  have hrow : s.row = rowOf r ++ i.node :: i.rest := by rw [j.row, rowOf_cons]
  have hs := j.srt
  rw [hrow, List.pairwise_append] at hs
  obtain ⟨hs1, hs2, hs3⟩ := hs
  have hs2' := List.pairwise_cons.1 hs2
  have hdis : ∀ x ∈ rowOf r, x ∉ i.node :: i.rest := fun x hx hx' => by have := hs3 x hx x hx'; omega
  -- all of the segment come to one another
  have hseg : ∀ y ∈ i.node :: i.rest, Rch n E y i.node ∧ Rch n E i.node y ∧ ∀ z, Adj n E y z → Seen s i.node z := by
    intro y hy
    rcases List.mem_cons.1 hy with rfl | hy
    · refine ⟨.refl _, .refl _, fun z hz => hi.edges z hz.2.1 ?_⟩
      rw [he, List.take_length]; exact hz.2.2
    · exact hi.rest y hy
  have hmem : ∀ x, x ∈ s.row ↔ x ∈ rowOf r ∨ x ∈ i.node :: i.rest := fun x => by rw [hrow, List.mem_append]
  let s' := s.pop i.node (rowOf r) i.rest
  have htold : ∀ u, Told n s' u ↔ Told n s u ∨ u ∈ i.node :: i.rest := by
    intro u
    constructor
    · rintro ⟨h1, h2, h3⟩
      by_cases h : u ∈ i.node :: i.rest
      · exact .inr h
      · refine .inl ⟨h1, h2, fun hu => ?_⟩
        rcases (hmem u).1 hu with h' | h'
        · exact h3 h'
        · exact h h'
    · rintro (⟨h1, h2, h3⟩ | h)
      · exact ⟨h1, h2, fun h => h3 ((hmem u).2 (.inl h))⟩
      · have hu := (hmem u).2 (.inr h)
        exact ⟨j.lt u hu, j.vis u hu, fun h' => hdis u h' h⟩
  have hnot : ∀ u, Told n s u → u ∉ i.node :: i.rest := fun u h h' => h.2.2 ((hmem u).2 (.inr h'))
  have hpart : ∀ u, u ∉ i.node :: i.rest → s'.part u = s.part u := fun u h => by show (if _ then _ else _) = _; rw [if_neg h]
  have hpart' : ∀ u, u ∈ i.node :: i.rest → s'.part u = s.many := fun u h => by show (if _ then _ else _) = _; rw [if_pos h]
  have hno : ∀ u v, Told n s u → v ∈ i.node :: i.rest → ¬ Rch n E u v := fun u v hu hv hr => hnot v (closed_rch j.clo hr hu) hv
  refine ⟨rfl, fun x hx => j.lt x ((hmem x).2 (.inl hx)), j.pos, hs1, ?_, fun x hx => j.vis x ((hmem x).2 (.inl hx)), j.top, j.clock, ?_, ?_, ?_, ?_, ?_, ?_, fun k hk => ?_, ?_⟩
  · intro x hx
    show (if x ∈ i.node :: i.rest then false else s.opn x) = true ↔ x ∈ rowOf r
    by_cases h : x ∈ i.node :: i.rest
    · rw [if_pos h]; constructor
      · intro e; cases e
      · intro h'; exact absurd h (hdis x h')
    · rw [if_neg h, j.opn x hx, hmem]; simp [h]
  · have := j.many
    rw [hrow] at this
    show s.many + 1 + (rowOf r).length ≤ s.clock
    simp at this; omega
  · intro u v hu huv
    rw [htold] at hu ⊢
    rcases hu with hu | hu
    · exact .inl (j.clo u v hu huv)
    · obtain ⟨h1, h2⟩ := (hseg u hu).2.2 v huv
      by_cases hv : v ∈ s.row
      · rcases (hmem v).1 hv with h | h
        · exfalso
          have := h2 hv
          have := hs3 v h i.node (List.mem_cons_self ..)
          omega
        · exact .inr h
      · exact .inl ⟨huv.2.1, h1, hv⟩
  · intro u v hu hv
    rw [htold] at hu hv
    rcases hu with hu | hu <;> rcases hv with hv | hv
    · show s'.part u = s'.part v ↔ _
      rw [hpart u (hnot u hu), hpart v (hnot v hv)]; exact j.part u v hu hv
    · show s'.part u = s'.part v ↔ _
      rw [hpart u (hnot u hu), hpart' v hv]
      constructor
      · intro e; have := (j.prange u hu).2; omega
      · intro h; exact absurd h.1 (hno u v hu hv)
    · show s'.part u = s'.part v ↔ _
      rw [hpart' u hu, hpart v (hnot v hv)]
      constructor
      · intro e; have := (j.prange v hv).2; omega
      · intro h; exact absurd h.2 (hno v u hv hu)
    · show s'.part u = s'.part v ↔ _
      rw [hpart' u hu, hpart' v hv]
      exact ⟨fun _ => ⟨(hseg u hu).1.trans (hseg v hv).2.1, (hseg v hv).1.trans (hseg u hu).2.1⟩, fun _ => rfl⟩
  · intro u hu
    rw [htold] at hu
    show 0 ≤ s'.part u ∧ s'.part u < ((s.many + 1 : Nat) : Int)
    rcases hu with hu | hu
    · rw [hpart u (hnot u hu)]; have := j.prange u hu; omega
    · rw [hpart' u hu]; omega
  · intro p hp
    by_cases e : p = s.many
    · exact ⟨i.node, (htold _).2 (.inr (List.mem_cons_self ..)), by rw [e]; exact hpart' _ (List.mem_cons_self ..)⟩
    · obtain ⟨u, hu, h⟩ := j.psur p (by have : p < s.many + 1 := hp; omega)
      exact ⟨u, (htold u).2 (.inl hu), by rw [← h]; exact hpart u (hnot u hu)⟩
  · intro u v hu huv
    rw [htold] at hu
    show s'.part v ≤ s'.part u
    rcases hu with hu | hu
    · have hv := j.clo u v hu huv
      rw [hpart u (hnot u hu), hpart v (hnot v hv)]; exact j.up u v hu huv
    · rw [hpart' u hu]
      obtain ⟨h1, h2⟩ := (hseg u hu).2.2 v huv
      by_cases hv : v ∈ s.row
      · rcases (hmem v).1 hv with h | h
        · exfalso
          have := h2 hv
          have := hs3 v h i.node (List.mem_cons_self ..)
          omega
        · rw [hpart' v h]; exact Int.le_refl _
      · have ht : Told n s v := ⟨huv.2.1, h1, hv⟩
        rw [hpart v (hnot v ht)]; have := (j.prange v ht).2; omega
  · have ho := j.its k (List.mem_cons_of_mem _ hk)
    have hknode : k.node ∈ rowOf r := mem_rowOf.2 ⟨k, hk, .inl rfl⟩
    have hseen : ∀ z, Seen s k.node z → Seen s' k.node z := fun z h => ⟨h.1, fun hz => h.2 ((hmem z).2 (.inl hz))⟩
    refine ⟨ho.lt, ho.e, ho.lowle, ?_, fun z hz hm => hseen z (ho.edges z hz hm), fun y hy => ?_⟩
    · obtain ⟨u, hu, h1, h2⟩ := ho.wit
      refine ⟨u, ?_, h1, h2⟩
      rcases (hmem u).1 hu with h | h
      · exact h
      · exfalso
        have := hs3 k.node hknode u h
        have := ho.lowle
        omega
    · obtain ⟨a, b, c⟩ := ho.rest y hy
      exact ⟨a, b, fun z hz => hseen z (c z hz)⟩
  · cases r with
    | nil => trivial
    | cons b r => exact j.chain.2

/-- the lowest of all comes to none further down -/
theorem J.bottom {s : TS} {i : It} (j : J n E s [i]) : s.low i.node = s.idx i.node := by
  have hi := j.its i (List.mem_cons_self ..)
  obtain ⟨u, hu, h1, _⟩ := hi.wit
  have hrow : s.row = i.node :: i.rest := by rw [j.row]; simp [rowOf]
  have hs := j.srt
  rw [hrow] at hs hu
  rcases List.mem_cons.1 hu with rfl | hu
  · exact h1
  · have := (List.pairwise_cons.1 hs).1 u hu
    have := hi.lowle
    omega

end
end Go.Fw
