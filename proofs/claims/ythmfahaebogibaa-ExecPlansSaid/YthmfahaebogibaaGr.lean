import Derived.Test.YthmfahaebogibaaFxA
import Derived.Test.YthmfahaebogibaaCd
set_option linter.unusedVariables false
set_option linter.unusedSimpArgs false
/-! Strong components: the search, as plain lists and numbers. -/
namespace Go.Fw

structure TS where
  idx : Nat → Int
  low : Nat → Int
  opn : Nat → Bool
  part : Nat → Int
  row : List Nat
  many : Nat
  clock : Nat

def TS.come (s : TS) (v : Nat) : TS :=
  { s with clock := s.clock + 1, idx := Up s.idx v (s.clock + 1), low := Up s.low v (s.clock + 1), opn := Up s.opn v true, row := s.row ++ [v] }
def TS.popN (s : TS) (l row : List Nat) : TS :=
  { s with row := row, opn := fun x => if x ∈ l then false else s.opn x, part := fun x => if x ∈ l then s.many else s.part x }
/-- v's part is told -/
def TS.pop (s : TS) (v : Nat) (pre suf : List Nat) : TS := { s.popN (v :: suf) pre with many := s.many + 1 }
def TS.lower (s : TS) (v : Nat) (x : Int) : TS := { s with low := Up s.low v (min (s.low v) x) }

section
variable {n : Nat} {E : Nat → List Int}

def Adj (n : Nat) (E : Nat → List Int) (u v : Nat) : Prop := u < n ∧ v < n ∧ (v : Int) ∈ E u
inductive Rch (n : Nat) (E : Nat → List Int) : Nat → Nat → Prop
  | refl (u : Nat) : Rch n E u u
  | step {u v w : Nat} : Adj n E u v → Rch n E v w → Rch n E u w
theorem Rch.trans {u v w : Nat} (h : Rch n E u v) (g : Rch n E v w) : Rch n E u w := by
  induction h with
  | refl => exact g
  | step a _ ih => exact .step a (ih g)
theorem Rch.one {u v : Nat} (h : Adj n E u v) : Rch n E u v := .step h (.refl v)
def Scc (n : Nat) (E : Nat → List Int) (u v : Nat) : Prop := Rch n E u v ∧ Rch n E v u
theorem closed_rch {T : Nat → Prop} (h : ∀ u v, T u → Adj n E u v → T v) {u v : Nat} (hr : Rch n E u v) (hu : T u) : T v := by
  induction hr with
  | refl => exact hu
  | step a _ ih => exact ih (h _ _ hu a)

/-- a node under way, its next edge, and what hangs behind it in the row -/
structure It where
  node : Nat
  edge : Nat
  rest : List Nat

def rowOf (path : List It) : List Nat := (path.reverse.map fun i => i.node :: i.rest).flatten
theorem rowOf_nil : rowOf [] = [] := rfl
theorem rowOf_cons (i : It) (r : List It) : rowOf (i :: r) = rowOf r ++ i.node :: i.rest := by simp [rowOf]

def cnt (f : Nat → Int) : Nat → Nat
  | 0 => 0
  | n + 1 => cnt f n + if f n = 0 then 0 else 1
theorem cnt_le (f : Nat → Int) : ∀ n, cnt f n ≤ n
  | 0 => Nat.le_refl _
  | n + 1 => by have := cnt_le f n; simp only [cnt]; split <;> omega
theorem cnt_up (f : Nat → Int) (v : Nat) (x : Int) (hv : f v = 0) (hx : x ≠ 0) : ∀ n, cnt (Up f v x) n = cnt f n + if v < n then 1 else 0
  | 0 => rfl
  | n + 1 => by
    simp only [cnt, cnt_up f v x hv hx n]
    by_cases h : n = v
    · subst h; rw [Up_self]; simp [hv, hx]
    · rw [Up_ne _ h]
      by_cases h1 : v < n
      · have h2 : v < n + 1 := by omega
        simp only [h1, h2, if_true]; omega
      · have h2 : ¬ v < n + 1 := by omega
        simp only [h1, h2, if_false]; omega
/-- what the nodes to come may cost -/
def cost (E : Nat → List Int) (f : Nat → Int) : Nat → Nat
  | 0 => 0
  | n + 1 => cost E f n + if f n = 0 then (E n).length + 2 else 0
theorem cost_up (f : Nat → Int) (v : Nat) (x : Int) (hv : f v = 0) (hx : x ≠ 0) : ∀ n, cost E (Up f v x) n + (if v < n then (E v).length + 2 else 0) = cost E f n
  | 0 => rfl
  | n + 1 => by
    have ih := cost_up f v x hv hx n
    simp only [cost]
    by_cases h : n = v
    · subst h; rw [Up_self]; simp only [hv, hx, if_true, if_false, Nat.lt_succ_self] at ih ⊢; simp at ih; omega
    · rw [Up_ne _ h]
      by_cases h1 : v < n
      · have h2 : v < n + 1 := by omega
        simp only [h1, h2, if_true] at ih ⊢; omega
      · have h2 : ¬ v < n + 1 := by omega
        simp only [h1, h2, if_false] at ih ⊢; omega
def costP (E : Nat → List Int) (path : List It) : Nat := (path.map fun i => (E i.node).length - i.edge + 1).sum

/-- a node whose part is told -/
def Told (n : Nat) (s : TS) (v : Nat) : Prop := v < n ∧ s.idx v ≠ 0 ∧ v ∉ s.row

/-- what is seen over an edge from a done place -/
def Seen (s : TS) (w : Nat) (z : Nat) : Prop := s.idx z ≠ 0 ∧ (z ∈ s.row → s.low w ≤ s.idx z)

structure ItOK (n : Nat) (E : Nat → List Int) (s : TS) (i : It) : Prop where
  lt : i.node < n
  e : i.edge ≤ (E i.node).length
  lowle : s.low i.node ≤ s.idx i.node
  wit : ∃ u ∈ s.row, s.low i.node = s.idx u ∧ Rch n E i.node u
  edges : ∀ z, z < n → (z : Int) ∈ (E i.node).take i.edge → Seen s i.node z
  rest : ∀ y ∈ i.rest, Rch n E y i.node ∧ Rch n E i.node y ∧ ∀ z, Adj n E y z → Seen s i.node z

def Chain (n : Nat) (E : Nat → List Int) : List It → Prop
  | a :: b :: r => Adj n E b.node a.node ∧ Chain n E (b :: r)
  | _ => True

structure J (n : Nat) (E : Nat → List Int) (s : TS) (path : List It) : Prop where
  row : s.row = rowOf path
  lt : ∀ x ∈ s.row, x < n
  pos : ∀ v, 0 ≤ s.idx v
  srt : s.row.Pairwise fun a b => s.idx a < s.idx b
  opn : ∀ v, v < n → (s.opn v = true ↔ v ∈ s.row)
  vis : ∀ x ∈ s.row, s.idx x ≠ 0
  top : ∀ x, s.idx x ≤ s.clock
  clock : s.clock = cnt s.idx n
  many : s.many + s.row.length ≤ s.clock
  clo : ∀ u v, Told n s u → Adj n E u v → Told n s v
  part : ∀ u v, Told n s u → Told n s v → (s.part u = s.part v ↔ Scc n E u v)
  prange : ∀ u, Told n s u → 0 ≤ s.part u ∧ s.part u < s.many
  psur : ∀ p : Nat, p < s.many → ∃ u, Told n s u ∧ s.part u = p
  up : ∀ u v, Told n s u → Adj n E u v → s.part v ≤ s.part u
  its : ∀ i ∈ path, ItOK n E s i
  chain : Chain n E path

theorem mem_rowOf {path : List It} {x : Nat} : x ∈ rowOf path ↔ ∃ i ∈ path, x = i.node ∨ x ∈ i.rest := by
  simp only [rowOf, List.mem_flatten, List.mem_map, List.mem_reverse]
  constructor
  · rintro ⟨l, ⟨i, hi, rfl⟩, hx⟩; exact ⟨i, hi, by simpa using hx⟩
  · rintro ⟨i, hi, hx⟩; exact ⟨_, ⟨i, hi, rfl⟩, by simpa using hx⟩

theorem J.start (n : Nat) (E : Nat → List Int) (low part : Nat → Int) : J n E ⟨fun _ => 0, low, fun _ => false, part, [], 0, 0⟩ [] := by
  refine ⟨rfl, by simp, fun v => Int.le_refl 0, by simp, by simp, by simp, fun x => Int.le_refl 0, ?_, by simp, ?_, ?_, ?_, ?_, ?_, by simp, trivial⟩
  · have : ∀ n, cnt (fun _ => 0) n = 0 := by intro n; induction n <;> simp_all [cnt]
    simp [this]
  · rintro u v ⟨_, h, _⟩; exact absurd rfl h
  · rintro u v ⟨_, h, _⟩; exact absurd rfl h
  · rintro u ⟨_, h, _⟩; exact absurd rfl h
  · intro p hp; simp at hp
  · rintro u v ⟨_, h, _⟩; exact absurd rfl h

/-- a new node is come to -/
theorem J.come {s : TS} {path : List It} (j : J n E s path) {v : Nat} (hv : v < n) (h0 : s.idx v = 0) (hadj : ∀ i r, path = i :: r → Adj n E i.node v) : J n E (s.come v) (⟨v, 0, []⟩ :: path) := by
  have hnr : v ∉ s.row := fun h => j.vis v h h0
  have hcl : (0 : Int) ≤ s.clock := Int.natCast_nonneg _
  have hidx : ∀ x, x ≠ v → (s.come v).idx x = s.idx x := fun x hx => Up_ne _ hx
  have hidv : (s.come v).idx v = s.clock + 1 := Up_self _ _ _
  have hlowv : (s.come v).low v = s.clock + 1 := Up_self _ _ _
  have hne : ∀ x ∈ s.row, x ≠ v := fun x hx e => hnr (e ▸ hx)
  have htold : ∀ u, Told n (s.come v) u ↔ Told n s u := by
    intro u
    constructor
    · rintro ⟨h1, h2, h3⟩
      have hu : u ≠ v := fun e => h3 (by simp [TS.come, e])
      rw [hidx u hu] at h2
      exact ⟨h1, h2, fun h => h3 (by simp [TS.come, h])⟩
    · rintro ⟨h1, h2, h3⟩
      have hu : u ≠ v := fun e => h2 (e ▸ h0)
      exact ⟨h1, by rw [hidx u hu]; exact h2, by simp [TS.come, h3, hu]⟩
  have hseen : ∀ w z, w ≠ v → Seen s w z → Seen (s.come v) w z := by
    rintro w z hw ⟨h1, h2⟩
    have hz : z ≠ v := fun e => h1 (e ▸ h0)
    refine ⟨by rw [hidx z hz]; exact h1, fun hz' => ?_⟩
    have : z ∈ s.row := by simpa [TS.come, hz] using hz'
    rw [hidx z hz]
    show Up s.low v _ w ≤ _
    rw [Up_ne _ hw]; exact h2 this
  refine ⟨by rw [rowOf_cons, ← j.row]; rfl, ?_, ?_, ?_, ?_, ?_, ?_, ?_, ?_, ?_, ?_, ?_, ?_, ?_, ?_, ?_⟩
  · intro x hx
    rcases (by simpa [TS.come] using hx : x ∈ s.row ∨ x = v) with h | h
    · exact j.lt x h
    · exact h ▸ hv
  · intro x
    by_cases e : x = v
    · rw [e, hidv]; omega
    · rw [hidx x e]; exact j.pos x
  · show (s.row ++ [v]).Pairwise _
    rw [List.pairwise_append]
    refine ⟨j.srt.imp_of_mem fun ha hb h => by rw [hidx _ (hne _ ha), hidx _ (hne _ hb)]; exact h, by simp, fun a ha b hb => ?_⟩
    simp only [List.mem_singleton] at hb; subst hb
    rw [hidx _ (hne _ ha), hidv]
    have := j.top a; omega
  · intro x hx
    show Up s.opn v true x = true ↔ x ∈ s.row ++ [v]
    by_cases e : x = v
    · subst e; simp [Up_self]
    · rw [Up_ne _ e, j.opn x hx]; simp [e]
  · intro x hx
    rcases (by simpa [TS.come] using hx : x ∈ s.row ∨ x = v) with h | h
    · rw [hidx x (hne x h)]; exact j.vis x h
    · rw [h, hidv]; omega
  · intro x
    show _ ≤ ((s.clock + 1 : Nat) : Int)
    by_cases e : x = v
    · rw [e, hidv]; omega
    · rw [hidx x e]; have := j.top x; omega
  · show s.clock + 1 = cnt (Up s.idx v _) n
    rw [cnt_up _ _ _ h0 (by omega), if_pos hv, j.clock]
  · have := j.many; simp only [TS.come, List.length_append, List.length_cons, List.length_nil]; omega
  · intro a b ha hab
    rw [htold] at ha ⊢; exact j.clo a b ha hab
  · intro a b ha hb
    rw [htold] at ha hb; exact j.part a b ha hb
  · intro a ha
    rw [htold] at ha; exact j.prange a ha
  · intro p hp
    obtain ⟨u, hu, he⟩ := j.psur p hp
    exact ⟨u, (htold u).2 hu, he⟩
  · intro a b ha hab
    rw [htold] at ha; exact j.up a b ha hab
  · intro i hi
    rcases List.mem_cons.1 hi with rfl | hi
    · refine ⟨hv, Nat.zero_le _, by rw [hidv, hlowv]; exact Int.le_refl _, ⟨v, by simp [TS.come], by rw [hidv, hlowv], .refl v⟩, by simp, by simp⟩
    · have ho := j.its i hi
      have hnode : i.node ∈ s.row := by rw [j.row, mem_rowOf]; exact ⟨i, hi, .inl rfl⟩
      have hw := hne _ hnode
      have hlow : (s.come v).low i.node = s.low i.node := Up_ne _ hw
      obtain ⟨u, hu, h1, h2⟩ := ho.wit
      refine ⟨ho.lt, ho.e, by rw [hlow, hidx _ hw]; exact ho.lowle, ⟨u, by simp [TS.come, hu], by rw [hlow, hidx _ (hne u hu)]; exact h1, h2⟩, fun z hz hm => hseen _ z hw (ho.edges z hz hm), fun y hy => ?_⟩
      obtain ⟨a, b, c⟩ := ho.rest y hy
      exact ⟨a, b, fun z hz => hseen _ z hw (c z hz)⟩
  · cases path with
    | nil => trivial
    | cons i r => exact ⟨hadj i r rfl, j.chain⟩


/-- the top's next edge is looked at: nothing but what is seen -/
theorem J.pass {s : TS} {i : It} {r : List It} (j : J n E s (i :: r)) (he : i.edge < (E i.node).length)
    (hs : ∀ z, z < n → (z : Int) = (E i.node)[i.edge] → Seen s i.node z) : J n E s ({ i with edge := i.edge + 1 } :: r) := by
  have ho := j.its i (List.mem_cons_self ..)
  refine { j with row := by rw [j.row, rowOf_cons, rowOf_cons], its := fun k hk => ?_, chain := ?_ }
  · rcases List.mem_cons.1 hk with rfl | hk
    · refine ⟨ho.lt, he, ho.lowle, ho.wit, fun z hz hm => ?_, ho.rest⟩
      simp only [List.take_succ_eq_append_getElem he, List.mem_append, List.mem_singleton] at hm
      rcases hm with hm | hm
      · exact ho.edges z hz hm
      · exact hs z hz hm
    · exact j.its k (List.mem_cons_of_mem _ hk)
  · cases r with
    | nil => trivial
    | cons b r => exact j.chain

theorem lower_idx (s : TS) (v : Nat) (x : Int) : (s.lower v x).idx = s.idx := rfl
theorem Seen.lower {s : TS} {w z v : Nat} {x : Int} (h : Seen s w z) : Seen (s.lower v x) w z := by
  refine ⟨h.1, fun hz => Int.le_trans ?_ (h.2 hz)⟩
  show Up s.low v _ w ≤ _
  by_cases e : w = v
  · subst e; rw [Up_self]; omega
  · rw [Up_ne _ e]; exact Int.le_refl _

/-- a node's low sinks to that of a node in the row which it comes to -/
theorem J.lower {s : TS} {path : List It} (j : J n E s path) {v : Nat} {x : Int} (hx : ∃ u ∈ s.row, x = s.idx u ∧ Rch n E v u) : J n E (s.lower v x) path := by
  refine { j with its := fun k hk => ?_ }
  have ho := j.its k hk
  have hle : (s.lower v x).low k.node ≤ s.low k.node := by
    show Up s.low v _ _ ≤ _
    by_cases e : k.node = v
    · rw [e, Up_self]; omega
    · rw [Up_ne _ e]; exact Int.le_refl _
  refine ⟨ho.lt, ho.e, Int.le_trans hle ho.lowle, ?_, fun z hz hm => (ho.edges z hz hm).lower, fun y hy => ?_⟩
  · by_cases e : k.node = v
    · obtain ⟨u, hu, h1, h2⟩ := ho.wit
      obtain ⟨u', hu', h1', h2'⟩ := hx
      by_cases hm : s.low v ≤ x
      · refine ⟨u, hu, ?_, h2⟩
        show Up s.low v _ _ = _
        rw [e, Up_self, Int.min_eq_left hm, ← e]; exact h1
      · refine ⟨u', hu', ?_, e ▸ h2'⟩
        show Up s.low v _ _ = _
        rw [e, Up_self, Int.min_eq_right (by omega)]; exact h1'
    · obtain ⟨u, hu, h1, h2⟩ := ho.wit
      refine ⟨u, hu, ?_, h2⟩
      show Up s.low v _ _ = _
      rw [Up_ne _ e]; exact h1
  · obtain ⟨a, b, c⟩ := ho.rest y hy
    exact ⟨a, b, fun z hz => (c z hz).lower⟩

/-- nodes further up the row come to by those below -/
theorem J.reach_up {s : TS} : ∀ {path : List It}, (∀ i ∈ path, ItOK n E s i) → Chain n E path → ∀ {i : It} {r : List It}, path = i :: r → ∀ k ∈ r, Rch n E k.node i.node
  | [], _, _, i, r, e, k, hk => by cases e
  | a :: [], _, _, i, r, e, k, hk => by cases e; cases hk
  | a :: b :: r', hi, hc, i, r, e, k, hk => by
    cases e
    rcases List.mem_cons.1 hk with rfl | hk
    · exact .one hc.1
    · exact (J.reach_up (path := b :: r') (fun i h => hi i (List.mem_cons_of_mem _ h)) hc.2 rfl k hk).trans (.one hc.1)

/-- all edges of the top are done, and it comes to one further down: it is hung behind the one ahead -/
theorem J.hang {s : TS} {i b : It} {r : List It} (j : J n E s (i :: b :: r)) (he : i.edge = (E i.node).length) (hlow : s.low i.node ≠ s.idx i.node) :
    J n E (s.lower b.node (s.low i.node)) ({ b with rest := b.rest ++ i.node :: i.rest } :: r) := by
  have hi := j.its i (List.mem_cons_self ..)
  have hb := j.its b (List.mem_cons_of_mem _ (List.mem_cons_self ..))
  have hadj := j.chain.1
  obtain ⟨u, hu, hlu, hru⟩ := hi.wit
  have hrow : s.row = rowOf r ++ (b.node :: b.rest) ++ (i.node :: i.rest) := by rw [j.row, rowOf_cons, rowOf_cons]
  -- u stands below i in the row
  have hulow : u ∈ rowOf r ++ (b.node :: b.rest) := by
    rw [hrow] at hu
    rcases List.mem_append.1 hu with h | h
    · exact h
    · exfalso
      have h1 : s.idx u < s.idx i.node := by have := hi.lowle; omega
      have hs := j.srt
      rw [hrow, List.pairwise_append] at hs
      rcases List.mem_cons.1 h with h | h
      · subst h; omega
      · have := (List.pairwise_cons.1 hs.2.1).1 u h
        omega
  -- u comes to b
  have hub : Rch n E u b.node := by
    rcases List.mem_append.1 hulow with h | h
    · obtain ⟨k, hk, h⟩ := mem_rowOf.1 h
      have hkb : Rch n E k.node b.node := J.reach_up (path := b :: r) (fun x hx => j.its x (List.mem_cons_of_mem _ hx)) j.chain.2 rfl k hk
      rcases h with rfl | h
      · exact hkb
      · exact ((j.its k (List.mem_cons_of_mem _ (List.mem_cons_of_mem _ hk))).rest u h).1.trans hkb
    · rcases List.mem_cons.1 h with rfl | h
      · exact .refl _
      · exact (hb.rest u h).1
  have hib : Rch n E i.node b.node := hru.trans hub
  have j1 := j.lower (v := b.node) (x := s.low i.node) ⟨u, hu, hlu, (Rch.one hadj).trans hru⟩
  have hb1 := j1.its b (List.mem_cons_of_mem _ (List.mem_cons_self ..))
  have hlowb : (s.lower b.node (s.low i.node)).low b.node ≤ s.low i.node := by
    show Up s.low b.node _ _ ≤ _
    rw [Up_self]; omega
  have hseen : ∀ z, Seen s i.node z → Seen (s.lower b.node (s.low i.node)) b.node z := fun z h => ⟨h.1, fun hz => Int.le_trans hlowb (h.2 hz)⟩
  refine { j1 with row := ?_, its := fun k hk => ?_, chain := ?_ }
  · rw [j1.row, rowOf_cons, rowOf_cons, rowOf_cons]; simp
  · rcases List.mem_cons.1 hk with rfl | hk
    · refine ⟨hb1.lt, hb1.e, hb1.lowle, hb1.wit, hb1.edges, fun y hy => ?_⟩
      rcases List.mem_append.1 hy with hy | hy
      · exact hb1.rest y hy
      · rcases List.mem_cons.1 hy with rfl | hy
        · refine ⟨hib, .one hadj, fun z hz => hseen z (hi.edges z hz.2.1 ?_)⟩
          rw [he, List.take_length]; exact hz.2.2
        · obtain ⟨h1, h2, h3⟩ := hi.rest y hy
          exact ⟨h1.trans hib, (Rch.one hadj).trans h2, fun z hz => hseen z (h3 z hz)⟩
    · exact j1.its k (List.mem_cons_of_mem _ (List.mem_cons_of_mem _ hk))
  · cases r with
    | nil => trivial
    | cons c r => exact j.chain.2

/-- .. it comes to none further down: its part is told -/
theorem J.tell {s : TS} {i : It} {r : List It} (j : J n E s (i :: r)) (he : i.edge = (E i.node).length) (hlow : s.low i.node = s.idx i.node) :
    J n E (s.pop i.node (rowOf r) i.rest) r := by
  have hi := j.its i (List.mem_cons_self ..)
  have hrow : s.row = rowOf r ++ i.node :: i.rest := by rw [j.row, rowOf_cons]
  have hs := j.srt
  rw [hrow, List.pairwise_append] at hs
  obtain ⟨hs1, hs2, hs3⟩ := hs
  have hs2' := List.pairwise_cons.1 hs2
  have hdis : ∀ x ∈ rowOf r, x ∉ i.node :: i.rest := fun x hx hx' => by have := hs3 x hx x hx'; omega
  -- all of the segment come to one another
  have hseg : ∀ y ∈ i.node :: i.rest, Rch n E y i.node ∧ Rch n E i.node y ∧ ∀ z, Adj n E y z → Seen s i.node z := by
    intro y hy
    rcases List.mem_cons.1 hy with rfl | hy
    · refine ⟨.refl _, .refl _, fun z hz => hi.edges z hz.2.1 ?_⟩
      rw [he, List.take_length]; exact hz.2.2
    · exact hi.rest y hy
  have hmem : ∀ x, x ∈ s.row ↔ x ∈ rowOf r ∨ x ∈ i.node :: i.rest := fun x => by rw [hrow, List.mem_append]
  let s' := s.pop i.node (rowOf r) i.rest
  have htold : ∀ u, Told n s' u ↔ Told n s u ∨ u ∈ i.node :: i.rest := by
    intro u
    constructor
    · rintro ⟨h1, h2, h3⟩
      by_cases h : u ∈ i.node :: i.rest
      · exact .inr h
      · refine .inl ⟨h1, h2, fun hu => ?_⟩
        rcases (hmem u).1 hu with h' | h'
        · exact h3 h'
        · exact h h'
    · rintro (⟨h1, h2, h3⟩ | h)
      · exact ⟨h1, h2, fun h => h3 ((hmem u).2 (.inl h))⟩
      · have hu := (hmem u).2 (.inr h)
        exact ⟨j.lt u hu, j.vis u hu, fun h' => hdis u h' h⟩
  have hnot : ∀ u, Told n s u → u ∉ i.node :: i.rest := fun u h h' => h.2.2 ((hmem u).2 (.inr h'))
  have hpart : ∀ u, u ∉ i.node :: i.rest → s'.part u = s.part u := fun u h => by show (if _ then _ else _) = _; rw [if_neg h]
  have hpart' : ∀ u, u ∈ i.node :: i.rest → s'.part u = s.many := fun u h => by show (if _ then _ else _) = _; rw [if_pos h]
  have hno : ∀ u v, Told n s u → v ∈ i.node :: i.rest → ¬ Rch n E u v := fun u v hu hv hr => hnot v (closed_rch j.clo hr hu) hv
  refine ⟨rfl, fun x hx => j.lt x ((hmem x).2 (.inl hx)), j.pos, hs1, ?_, fun x hx => j.vis x ((hmem x).2 (.inl hx)), j.top, j.clock, ?_, ?_, ?_, ?_, ?_, ?_, fun k hk => ?_, ?_⟩
  · intro x hx
    show (if x ∈ i.node :: i.rest then false else s.opn x) = true ↔ x ∈ rowOf r
    by_cases h : x ∈ i.node :: i.rest
    · rw [if_pos h]; constructor
      · intro e; cases e
      · intro h'; exact absurd h (hdis x h')
    · rw [if_neg h, j.opn x hx, hmem]; simp [h]
  · have := j.many
    rw [hrow] at this
    show s.many + 1 + (rowOf r).length ≤ s.clock
    simp at this; omega
  · intro u v hu huv
    rw [htold] at hu ⊢
    rcases hu with hu | hu
    · exact .inl (j.clo u v hu huv)
    · obtain ⟨h1, h2⟩ := (hseg u hu).2.2 v huv
      by_cases hv : v ∈ s.row
      · rcases (hmem v).1 hv with h | h
        · exfalso
          have := h2 hv
          have := hs3 v h i.node (List.mem_cons_self ..)
          omega
        · exact .inr h
      · exact .inl ⟨huv.2.1, h1, hv⟩
  · intro u v hu hv
    rw [htold] at hu hv
    rcases hu with hu | hu <;> rcases hv with hv | hv
    · show s'.part u = s'.part v ↔ _
      rw [hpart u (hnot u hu), hpart v (hnot v hv)]; exact j.part u v hu hv
    · show s'.part u = s'.part v ↔ _
      rw [hpart u (hnot u hu), hpart' v hv]
      constructor
      · intro e; have := (j.prange u hu).2; omega
      · intro h; exact absurd h.1 (hno u v hu hv)
    · show s'.part u = s'.part v ↔ _
      rw [hpart' u hu, hpart v (hnot v hv)]
      constructor
      · intro e; have := (j.prange v hv).2; omega
      · intro h; exact absurd h.2 (hno v u hv hu)
    · show s'.part u = s'.part v ↔ _
      rw [hpart' u hu, hpart' v hv]
      exact ⟨fun _ => ⟨(hseg u hu).1.trans (hseg v hv).2.1, (hseg v hv).1.trans (hseg u hu).2.1⟩, fun _ => rfl⟩
  · intro u hu
    rw [htold] at hu
    show 0 ≤ s'.part u ∧ s'.part u < ((s.many + 1 : Nat) : Int)
    rcases hu with hu | hu
    · rw [hpart u (hnot u hu)]; have := j.prange u hu; omega
    · rw [hpart' u hu]; omega
  · intro p hp
    by_cases e : p = s.many
    · exact ⟨i.node, (htold _).2 (.inr (List.mem_cons_self ..)), by rw [e]; exact hpart' _ (List.mem_cons_self ..)⟩
    · obtain ⟨u, hu, h⟩ := j.psur p (by have : p < s.many + 1 := hp; omega)
      exact ⟨u, (htold u).2 (.inl hu), by rw [← h]; exact hpart u (hnot u hu)⟩
  · intro u v hu huv
    rw [htold] at hu
    show s'.part v ≤ s'.part u
    rcases hu with hu | hu
    · have hv := j.clo u v hu huv
      rw [hpart u (hnot u hu), hpart v (hnot v hv)]; exact j.up u v hu huv
    · rw [hpart' u hu]
      obtain ⟨h1, h2⟩ := (hseg u hu).2.2 v huv
      by_cases hv : v ∈ s.row
      · rcases (hmem v).1 hv with h | h
        · exfalso
          have := h2 hv
          have := hs3 v h i.node (List.mem_cons_self ..)
          omega
        · rw [hpart' v h]; exact Int.le_refl _
      · have ht : Told n s v := ⟨huv.2.1, h1, hv⟩
        rw [hpart v (hnot v ht)]; have := (j.prange v ht).2; omega
  · have ho := j.its k (List.mem_cons_of_mem _ hk)
    have hknode : k.node ∈ rowOf r := mem_rowOf.2 ⟨k, hk, .inl rfl⟩
    have hseen : ∀ z, Seen s k.node z → Seen s' k.node z := fun z h => ⟨h.1, fun hz => h.2 ((hmem z).2 (.inl hz))⟩
    refine ⟨ho.lt, ho.e, ho.lowle, ?_, fun z hz hm => hseen z (ho.edges z hz hm), fun y hy => ?_⟩
    · obtain ⟨u, hu, h1, h2⟩ := ho.wit
      refine ⟨u, ?_, h1, h2⟩
      rcases (hmem u).1 hu with h | h
      · exact h
      · exfalso
        have := hs3 k.node hknode u h
        have := ho.lowle
        omega
    · obtain ⟨a, b, c⟩ := ho.rest y hy
      exact ⟨a, b, fun z hz => hseen z (c z hz)⟩
  · cases r with
    | nil => trivial
    | cons b r => exact j.chain.2

/-- the lowest of all comes to none further down -/
theorem J.bottom {s : TS} {i : It} (j : J n E s [i]) : s.low i.node = s.idx i.node := by
  have hi := j.its i (List.mem_cons_self ..)
  obtain ⟨u, hu, h1, _⟩ := hi.wit
  have hrow : s.row = i.node :: i.rest := by rw [j.row]; simp [rowOf]
  have hs := j.srt
  rw [hrow] at hs hu
  rcases List.mem_cons.1 hu with rfl | hu
  · exact h1
  · have := (List.pairwise_cons.1 hs).1 u hu
    have := hi.lowle
    omega

end
end Go.Fw

/-! The parts of a graph in their order, as plain lists. -/
namespace Go.Fw
section
variable {n : Nat} {E : Nat → List Int}

def Free (n : Nat) (E : Nat → List Int) (D : Nat → Prop) (i : Nat) : Prop := i < n ∧ ¬ D i ∧ ∀ j, j < n → Rch n E i j → Rch n E j i ∨ D j
inductive Out (n : Nat) (E : Nat → List Int) : (Nat → Prop) → List (List Nat) → Prop
  | nil {D : Nat → Prop} : (∀ i, ¬ Free n E D i) → Out n E D []
  | cons {D : Nat → Prop} {i : Nat} {f : Nat → Bool} {r : List (List Nat)} : Free n E D i → (∀ k, k < i → ¬ Free n E D k) → (∀ j, j < n → (f j = true ↔ Scc n E i j)) →
      Out n E (fun x => D x ∨ (x < n ∧ Scc n E i x)) r → Out n E D ((List.range n).filter f :: r)

theorem Out.det {D : Nat → Prop} {a b : List (List Nat)} (ha : Out n E D a) : Out n E D b → a = b := by
  induction ha generalizing b with
  | nil h =>
    intro hb
    cases hb with
    | nil => rfl
    | cons h1 => exact absurd h1 (h _)
  | @cons D i f r h1 h2 h3 h4 ih =>
    intro hb
    cases hb with
    | nil h => exact absurd h1 (h _)
    | @cons _ i' f' r' g1 g2 g3 g4 =>
      have hi : i = i' := by
        rcases Nat.lt_trichotomy i i' with h | h | h
        · exact absurd h1 (g2 i h)
        · exact h
        · exact absurd g1 (h2 i' h)
      subst hi
      have : (List.range n).filter f = (List.range n).filter f' := by
        apply List.filter_congr
        intro x hx
        have hx : x < n := by simpa using hx
        have := (h3 x hx).trans (g3 x hx).symm
        cases hf : f x <;> cases hf' : f' x <;> simp_all
      rw [this, ih g4]

/-- numbers of parts -/
structure PT (n : Nat) (E : Nat → List Int) (part : Nat → Nat) (N : Nat) : Prop where
  lt : ∀ v, v < n → part v < N
  scc : ∀ u v, u < n → v < n → (part u = part v ↔ Scc n E u v)
  sur : ∀ p, p < N → ∃ v, v < n ∧ part v = p
  up : ∀ u v, Adj n E u v → part v ≤ part u
  small : N ≤ n

def nodesOf (n : Nat) (part : Nat → Nat) (p : Nat) : List Nat := (List.range n).filter fun v => part v == p
theorem mem_nodesOf {part : Nat → Nat} {p v : Nat} : v ∈ nodesOf n part p ↔ v < n ∧ part v = p := by simp [nodesOf]
theorem nodesOf_ne {part : Nat → Nat} {N : Nat} (h : PT n E part N) {p : Nat} (hp : p < N) : nodesOf n part p ≠ [] := by
  obtain ⟨v, hv, e⟩ := h.sur p hp
  intro h'
  have : v ∈ nodesOf n part p := mem_nodesOf.2 ⟨hv, e⟩
  rw [h'] at this; cases this
def hd (n : Nat) (part : Nat → Nat) (p : Nat) : Nat := (nodesOf n part p).headD 0
theorem hd_mem {part : Nat → Nat} {N : Nat} (h : PT n E part N) {p : Nat} (hp : p < N) : hd n part p ∈ nodesOf n part p := by
  have := nodesOf_ne h hp
  unfold hd
  cases hl : nodesOf n part p with
  | nil => exact absurd hl this
  | cons x r => simp
theorem hd_le {part : Nat → Nat} {p v : Nat} (hv : v ∈ nodesOf n part p) : hd n part p ≤ v := by
  have hs : (nodesOf n part p).Pairwise (· < ·) := List.Pairwise.filter _ List.pairwise_lt_range
  unfold hd
  cases hl : nodesOf n part p with
  | nil => rw [hl] at hv; cases hv
  | cons x r =>
    rw [hl] at hv hs
    rcases List.mem_cons.1 hv with h | h
    · simp [h]
    · have := (List.pairwise_cons.1 hs).1 v h
      simp; omega

/-- the edges of a node that lead to another part: from which to which -/
def cross (n : Nat) (part : Nat → Nat) (v : Nat) (l : List Int) : List (Nat × Nat) :=
  l.filterMap fun (to : Int) => if 0 ≤ to ∧ to < (n : Int) ∧ part to.toNat ≠ part v then some (part v, part to.toNat) else none
def crossAll (n : Nat) (E : Nat → List Int) (part : Nat → Nat) (k : Nat) : List (Nat × Nat) := (List.range k).flatMap fun u => cross n part u (E u)
def leftOf (C : List (Nat × Nat)) (D : List Nat) (p : Nat) : Nat := (C.filter fun c => c.1 == p && !(D.contains c.2)).length
def backOf (C : List (Nat × Nat)) (q : Nat) : List Nat := (C.filter fun c => c.2 == q).map (·.1)

theorem mem_crossAll {part : Nat → Nat} {c : Nat × Nat} : c ∈ crossAll n E part n ↔ ∃ u v, Adj n E u v ∧ part v ≠ part u ∧ c = (part u, part v) := by
  simp only [crossAll, List.mem_flatMap, List.mem_range, cross, List.mem_filterMap]
  constructor
  · rintro ⟨u, hu, to, hto, h⟩
    split at h
    · rename_i h1
      refine ⟨u, to.toNat, ⟨hu, by omega, ?_⟩, h1.2.2, (Option.some.inj h).symm⟩
      rw [Int.toNat_of_nonneg h1.1]; exact hto
    · cases h
  · rintro ⟨u, v, ⟨hu, hv, hm⟩, hne, rfl⟩
    refine ⟨u, hu, (v : Int), hm, ?_⟩
    rw [if_pos ⟨by omega, by omega, by simpa using hne⟩]
    simp

def Cand (C : List (Nat × Nat)) (D : List Nat) (p : Nat) : Prop := p ∉ D ∧ leftOf C D p = 0
theorem leftOf_zero {C : List (Nat × Nat)} {D : List Nat} {p : Nat} : leftOf C D p = 0 ↔ ∀ c ∈ C, c.1 = p → c.2 ∈ D := by
  unfold leftOf
  rw [List.length_eq_zero_iff, List.filter_eq_nil_iff]
  constructor
  · intro h c hc e
    have := h c hc
    simp only [e, beq_self_eq_true, Bool.true_and, Bool.not_eq_true', List.contains_eq_mem, Bool.not_eq_false', decide_eq_false_iff_not, decide_eq_true_eq] at this
    simpa using this
  · intro h c hc
    simp only [Bool.and_eq_true, beq_iff_eq, Bool.not_eq_true', List.contains_eq_mem, decide_eq_false_iff_not, not_and]
    intro e; simpa using h c hc e

/-- what has been told is closed -/
def DClo (n : Nat) (E : Nat → List Int) (part : Nat → Nat) (D : List Nat) : Prop := ∀ u v, Adj n E u v → part u ∈ D → part v ∈ D

/-- one more may be told, while one is left -/
theorem cand_there {part : Nat → Nat} {N : Nat} (h : PT n E part N) {D : List Nat} (hD : ∃ p, p < N ∧ p ∉ D) : ∃ p, p < N ∧ Cand (crossAll n E part n) D p := by
  have : ∀ k p, p ≤ k → p < N → p ∉ D → ∃ p, p < N ∧ Cand (crossAll n E part n) D p := by
    intro k
    induction k with
    | zero =>
      intro p hp hN hd
      refine ⟨p, hN, hd, leftOf_zero.2 ?_⟩
      rintro c hc rfl
      obtain ⟨u, v, ha, hne, rfl⟩ := mem_crossAll.1 hc
      have := h.up u v ha
      simp only at hp hne; omega
    | succ k ih =>
      intro p hp hN hd
      by_cases hc : ∃ q, q ≤ k ∧ q < N ∧ q ∉ D
      · obtain ⟨q, h1, h2, h3⟩ := hc; exact ih q h1 h2 h3
      · refine ⟨p, hN, hd, leftOf_zero.2 ?_⟩
        rintro c hcm rfl
        obtain ⟨u, v, ha, hne, rfl⟩ := mem_crossAll.1 hcm
        have := h.up u v ha
        simp only at hp hne ⊢
        refine Classical.byContradiction fun hq => hc ⟨part v, by omega, h.lt v ha.2.1, hq⟩
  obtain ⟨p, h1, h2⟩ := hD
  exact this p p (Nat.le_refl _) h1 h2

/-- the part with the least node of those that may come is the next of the answer -/
theorem out_step {part : Nat → Nat} {N : Nat} (h : PT n E part N) {D : List Nat} (hclo : DClo n E part D) {b : Nat} (hb : b < N) (hc : Cand (crossAll n E part n) D b)
    (hmin : ∀ p, p < N → Cand (crossAll n E part n) D p → hd n part b ≤ hd n part p) {r : List (List Nat)} (hr : Out n E (fun x => x < n ∧ part x ∈ D ++ [b]) r) :
    Out n E (fun x => x < n ∧ part x ∈ D) (nodesOf n part b :: r) := by
  have hm := mem_nodesOf.1 (hd_mem h hb)
  have hclo' : DClo n E part (D ++ [b]) := by
    intro u v ha hu
    simp only [List.mem_append, List.mem_singleton] at hu ⊢
    rcases hu with hu | hu
    · exact .inl (hclo u v ha hu)
    · by_cases e : part v = part u
      · right; omega
      · exact .inl (leftOf_zero.1 hc.2 (part u, part v) (mem_crossAll.2 ⟨u, v, ha, e, rfl⟩) hu)
  refine Out.cons (i := hd n part b) (f := fun v => part v == b) ⟨hm.1, ?_, ?_⟩ ?_ ?_ ?_
  · rintro ⟨_, h'⟩; rw [hm.2] at h'; exact hc.1 h'
  · intro j hj hr'
    have hT := closed_rch (T := fun x => part x ∈ D ++ [b]) (fun u v hu ha => hclo' u v ha hu) hr' (by simp [hm.2])
    simp only [List.mem_append, List.mem_singleton] at hT
    rcases hT with hT | hT
    · exact .inr ⟨hj, hT⟩
    · exact .inl ((h.scc j _ hj hm.1).1 (by rw [hT, hm.2])).1
  · rintro k hk ⟨hkn, hkD, hkf⟩
    have hq : Cand (crossAll n E part n) D (part k) := by
      refine ⟨fun h' => hkD ⟨hkn, h'⟩, leftOf_zero.2 ?_⟩
      rintro c hcm e
      obtain ⟨u, v, ha, hne, rfl⟩ := mem_crossAll.1 hcm
      simp only at e ⊢
      have hku := (h.scc k u hkn ha.1).1 e.symm
      have hkv : Rch n E k v := hku.1.trans (.one ha)
      rcases hkf v ha.2.1 hkv with h' | h'
      · exact absurd ((h.scc k v hkn ha.2.1).2 ⟨hkv, h'⟩) (by omega)
      · exact h'.2
    have h1 := hmin (part k) (h.lt k hkn) hq
    have h2 := hd_le (n := n) (part := part) (p := part k) (v := k) (mem_nodesOf.2 ⟨hkn, rfl⟩)
    omega
  · intro j hj
    simp only [beq_iff_eq]
    rw [← h.scc _ _ hm.1 hj, hm.2]
    exact ⟨fun e => e.symm, fun e => e.symm⟩
  · have : (fun x => (x < n ∧ part x ∈ D) ∨ (x < n ∧ Scc n E (hd n part b) x)) = fun x => x < n ∧ part x ∈ D ++ [b] := by
      funext x
      apply propext
      simp only [List.mem_append, List.mem_singleton]
      constructor
      · rintro (⟨h1, h2⟩ | ⟨h1, h2⟩)
        · exact ⟨h1, .inl h2⟩
        · refine ⟨h1, .inr ?_⟩
          rw [← (h.scc _ _ hm.1 h1).2 h2, hm.2]
      · rintro ⟨h1, h2 | h2⟩
        · exact .inl ⟨h1, h2⟩
        · exact .inr ⟨h1, (h.scc _ _ hm.1 h1).1 (by rw [hm.2, h2])⟩
    rw [this]; exact hr
theorem clo_step {part : Nat → Nat} {D : List Nat} (hclo : DClo n E part D) {b : Nat} (hc : Cand (crossAll n E part n) D b) : DClo n E part (D ++ [b]) := by
  intro u v ha hu
  simp only [List.mem_append, List.mem_singleton] at hu ⊢
  rcases hu with hu | hu
  · exact .inl (hclo u v ha hu)
  · by_cases e : part v = part u
    · right; omega
    · exact .inl (leftOf_zero.1 hc.2 (part u, part v) (mem_crossAll.2 ⟨u, v, ha, e, rfl⟩) hu)
theorem out_end {part : Nat → Nat} {N : Nat} (h : PT n E part N) {D : List Nat} (hD : ∀ p, p < N → p ∈ D) : Out n E (fun x => x < n ∧ part x ∈ D) [] :=
  .nil fun i ⟨hi, hn, _⟩ => hn ⟨hi, hD _ (h.lt i hi)⟩

/-! steps of the counts -/
theorem leftOf_add (C : List (Nat × Nat)) (a b : Nat) : leftOf (C ++ [(a, b)]) [] = Up (leftOf C []) a (leftOf C [] a + 1) := by
  funext p
  by_cases e : p = a
  · subst e; rw [Up_self]; simp [leftOf]
  · rw [Up_ne _ e]
    have : (a == p) = false := by simpa using fun h => e h.symm
    simp [leftOf, this]
theorem backOf_add (C : List (Nat × Nat)) (a b : Nat) : backOf (C ++ [(a, b)]) = Up (backOf C) b (backOf C b ++ [a]) := by
  funext p
  by_cases e : p = b
  · subst e; rw [Up_self]; simp [backOf]
  · rw [Up_ne _ e]
    have : (b == p) = false := by simpa using fun h => e h.symm
    simp [backOf, this]
theorem leftOf_told (C : List (Nat × Nat)) (D : List Nat) (b : Nat) (hb : b ∉ D) (p : Nat) : leftOf C D p = leftOf C (D ++ [b]) p + ((backOf C b).filter (· == p)).length := by
  induction C with
  | nil => rfl
  | cons c C ih =>
    obtain ⟨x, y⟩ := c
    simp only [leftOf, backOf, List.filter_cons, List.contains_eq_mem] at ih ⊢
    by_cases hx : x = p
    · subst hx
      by_cases hy : y = b
      · subst hy
        have : decide (y ∈ D) = false := by simpa using hb
        simp [this] at ih ⊢; omega
      · by_cases hyD : y ∈ D <;> simp [hy, hyD] at ih ⊢ <;> omega
    · have hx' : (x == p) = false := by simpa using hx
      by_cases hy : y = b
      · subst hy; simp [hx'] at ih ⊢; omega
      · simp [hx', hy] at ih ⊢; omega
end
end Go.Fw

/-! What the answer says of nodes and edges. -/
namespace Go.Fw
section
variable {n : Nat} {E : Nat → List Int}

structure Ans (n : Nat) (E : Nat → List Int) (D : Nat → Prop) (l : List (List Nat)) : Prop where
  isF : ∀ p (hp : p < l.length), ∃ f : Nat → Bool, l[p] = (List.range n).filter f
  new : ∀ p (hp : p < l.length), ∀ x ∈ l[p], ¬ D x
  scc : ∀ p (hp : p < l.length), ∀ x ∈ l[p], ∀ y, y < n → (y ∈ l[p] ↔ Scc n E x y)
  dis : ∀ p q (hp : p < l.length) (hq : q < l.length), p < q → ∀ x ∈ l[p], x ∉ l[q]
  up : ∀ p (hp : p < l.length), ∀ x ∈ l[p], ∀ y, Adj n E x y → D y ∨ ∃ q, ∃ hq : q < l.length, q ≤ p ∧ y ∈ l[q]
  all : ∀ x, x < n → D x ∨ ∃ p, ∃ hp : p < l.length, x ∈ l[p]

/-- how many nodes outside D one comes to -/
noncomputable def outs (n : Nat) (E : Nat → List Int) (D : Nat → Prop) (u : Nat) : Nat := by
  classical exact ((List.range n).filter fun v => decide (Rch n E u v ∧ ¬ D v)).length
theorem filter_len_lt {l : List Nat} {f g : Nat → Bool} (h : ∀ x ∈ l, f x = true → g x = true) {y : Nat} (hy : y ∈ l) (h1 : f y = false) (h2 : g y = true) : (l.filter f).length < (l.filter g).length := by
  induction l with
  | nil => cases hy
  | cons a r ih =>
    have hle : (r.filter f).length ≤ (r.filter g).length := by
      have : ∀ r : List Nat, (∀ x ∈ r, f x = true → g x = true) → (r.filter f).length ≤ (r.filter g).length := by
        intro r
        induction r with
        | nil => intro _; simp
        | cons b r ih =>
          intro h
          have ih := ih fun x hx => h x (List.mem_cons_of_mem _ hx)
          simp only [List.filter_cons]
          cases hb : f b with
          | true => rw [h b (List.mem_cons_self ..) hb]; simpa using ih
          | false => cases hgb : g b <;> simp <;> omega
      exact this r fun x hx => h x (List.mem_cons_of_mem _ hx)
    simp only [List.filter_cons]
    rcases List.mem_cons.1 hy with rfl | hy
    · rw [h1, h2]; simp; omega
    · have ih := ih (fun x hx => h x (List.mem_cons_of_mem _ hx)) hy
      cases hb : f a with
      | true => rw [h a (List.mem_cons_self ..) hb]; simpa using ih
      | false => cases hgb : g a <;> simp <;> omega
theorem free_ex (D : Nat → Prop) : ∀ (c u : Nat), outs n E D u ≤ c → u < n → ¬ D u → ∃ i, Free n E D i := by
  classical
  intro c
  induction c using Nat.strongRecOn with
  | _ c ih =>
    intro u hc hu hD
    by_cases h : ∀ j, j < n → Rch n E u j → Rch n E j u ∨ D j
    · exact ⟨u, hu, hD, h⟩
    · have ⟨j, hj, hr, hnr, hDj⟩ : ∃ j, j < n ∧ Rch n E u j ∧ ¬ Rch n E j u ∧ ¬ D j := by
        apply Classical.byContradiction
        intro hn
        exact h fun j hj hr => Classical.byContradiction fun hh => hn ⟨j, hj, hr, fun h1 => hh (.inl h1), fun h1 => hh (.inr h1)⟩
      have hlt : outs n E D j < outs n E D u := by
        unfold outs
        refine filter_len_lt (y := u) (fun x _ hx => ?_) (by simpa using hu) ?_ ?_
        · have := of_decide_eq_true hx
          exact decide_eq_true ⟨hr.trans this.1, this.2⟩
        · exact decide_eq_false fun h => hnr h.1
        · exact decide_eq_true ⟨.refl _, hD⟩
      exact ih _ (by omega) j (Nat.le_refl _) hj hDj
theorem Out.ans {D : Nat → Prop} {l : List (List Nat)} (h : Out n E D l) (hD : ∀ x y, D x → Scc n E x y → D y) : Ans n E D l := by
  induction h with
  | @nil D h =>
    refine ⟨fun p hp => by simp at hp, fun p hp => by simp at hp, fun p hp => by simp at hp, fun p q hp => by simp at hp, fun p hp => by simp at hp, fun x hx => .inl ?_⟩
    apply Classical.byContradiction
    intro hn
    obtain ⟨i, hi⟩ := free_ex D _ x (Nat.le_refl _) hx hn
    exact h i hi
  | @cons D i f r h1 h2 h3 h4 ih =>
    have mem : ∀ x, x ∈ (List.range n).filter f ↔ x < n ∧ Scc n E i x := fun x => by
      simp only [List.mem_filter, List.mem_range]
      constructor
      · rintro ⟨a, b⟩; exact ⟨a, (h3 x a).1 b⟩
      · rintro ⟨a, b⟩; exact ⟨a, (h3 x a).2 b⟩
    have sc : ∀ {x y z : Nat}, Scc n E x y → Scc n E y z → Scc n E x z := fun a b => ⟨a.1.trans b.1, b.2.trans a.2⟩
    have sy : ∀ {x y : Nat}, Scc n E x y → Scc n E y x := fun a => ⟨a.2, a.1⟩
    have lt : ∀ {x y : Nat}, Rch n E x y → x < n → y < n := fun h hx => closed_rch (T := fun y => y < n) (fun _ _ _ ha => ha.2.1) h hx
    have a := ih (by
      rintro x y (h | ⟨hx, h⟩) hs
      · exact .inl (hD x y h hs)
      · exact .inr ⟨lt hs.1 hx, sc h hs⟩)
    refine ⟨fun p hp => ?_, fun p hp x hx => ?_, fun p hp x hx y hy => ?_, fun p q hp hq hpq x hx => ?_, fun p hp x hx y hy => ?_, fun x hx => ?_⟩
    · cases p with
      | zero => exact ⟨f, rfl⟩
      | succ p => exact a.isF p (by simpa using hp)
    · cases p with
      | zero => exact fun hd => h1.2.1 (hD x i hd (sy ((mem x).1 hx).2))
      | succ p => exact fun hd => a.new p (by simpa using hp) x hx (.inl hd)
    · cases p with
      | zero =>
        have hx := ((mem x).1 hx).2
        refine (mem y).trans ⟨fun h => sc (sy hx) h.2, fun h => ⟨hy, sc hx h⟩⟩
      | succ p => exact a.scc p (by simpa using hp) x hx y hy
    · cases q with
      | zero => omega
      | succ q =>
        cases p with
        | zero =>
          intro hx'
          exact a.new q (by simpa using hq) x hx' (.inr ((mem x).1 hx))
        | succ p => exact a.dis p q (by simpa using hp) (by simpa using hq) (by omega) x hx
    · cases p with
      | zero =>
        have hx := (mem x).1 hx
        rcases h1.2.2 y hy.2.1 (hx.2.1.trans (.one hy)) with h | h
        · exact .inr ⟨0, by simp, Nat.le_refl _, (mem y).2 ⟨hy.2.1, hx.2.1.trans (.one hy), h⟩⟩
        · exact .inl h
      | succ p =>
        rcases a.up p (by simpa using hp) x hx y hy with (h | h) | ⟨q, hq, hqp, h⟩
        · exact .inl h
        · exact .inr ⟨0, by simp, by omega, (mem y).2 h⟩
        · exact .inr ⟨q + 1, by simpa using hq, by omega, h⟩
    · rcases a.all x hx with (h | h) | ⟨p, hp, h⟩
      · exact .inl h
      · exact .inr ⟨0, by simp, (mem x).2 h⟩
      · exact .inr ⟨p + 1, by simpa using hp, h⟩

theorem Out.ans0 {l : List (List Nat)} (h : Out n E (fun _ => False) l) : Ans n E (fun _ => False) l := h.ans (fun _ _ h _ => h)
/-- where a node stands -/
theorem Ans.pos {l : List (List Nat)} (a : Ans n E (fun _ => False) l) : ∃ pos : Nat → Nat, (∀ x, x < n → ∃ h : pos x < l.length, x ∈ l[pos x]) ∧ (∀ p (hp : p < l.length), ∀ x ∈ l[p], pos x = p) ∧
    (∀ x y, Adj n E x y → pos y ≤ pos x) ∧ (∀ x y, x < n → y < n → (pos x = pos y ↔ Scc n E x y)) := by
  classical
  have hall : ∀ x, ∃ p, x < n → ∃ h : p < l.length, x ∈ l[p] := fun x => by
    by_cases h : x < n
    · rcases a.all x h with h' | ⟨p, hp, h'⟩
      · exact h'.elim
      · exact ⟨p, fun _ => ⟨hp, h'⟩⟩
    · exact ⟨0, fun h' => absurd h' h⟩
  refine ⟨fun x => (hall x).choose, fun x hx => (hall x).choose_spec hx, fun p hp x hx => ?_, fun x y ha => ?_, fun x y hx hy => ?_⟩
  · have hxn : x < n := by
      obtain ⟨f, e⟩ := a.isF p hp
      rw [e] at hx
      simpa using (List.mem_filter.1 hx).1
    obtain ⟨h1, h2⟩ := (hall x).choose_spec hxn
    rcases Nat.lt_trichotomy (hall x).choose p with h | h | h
    · exact absurd hx (a.dis _ _ h1 hp h x h2)
    · exact h
    · exact absurd h2 (a.dis _ _ hp h1 h x hx)
  · obtain ⟨h1, h2⟩ := (hall x).choose_spec ha.1
    obtain ⟨h3, h4⟩ := (hall y).choose_spec ha.2.1
    rcases a.up _ h1 x h2 y ha with h | ⟨q, hq, hle, hm⟩
    · exact h.elim
    · rcases Nat.lt_trichotomy (hall y).choose q with h | h | h
      · exact absurd hm (a.dis _ _ h3 hq h y h4)
      · show (hall y).choose ≤ (hall x).choose; omega
      · exact absurd h4 (a.dis _ _ hq h3 h y hm)
  · obtain ⟨h1, h2⟩ := (hall x).choose_spec hx
    obtain ⟨h3, h4⟩ := (hall y).choose_spec hy
    constructor
    · intro e
      have : y ∈ l[(hall x).choose] := by simp only [e]; exact h4
      exact (a.scc _ h1 x h2 y hy).1 this
    · intro h
      have hm := (a.scc _ h1 x h2 y hy).2 h
      rcases Nat.lt_trichotomy (hall x).choose (hall y).choose with h | h | h
      · exact absurd h4 (a.dis _ _ h1 h3 h y hm)
      · exact h
      · exact absurd hm (a.dis _ _ h3 h1 h y h4)
noncomputable def lft (n : Nat) (D : Nat → Prop) : Nat := ((List.range n).filter fun v => @decide (¬ D v) (Classical.propDecidable _)).length
theorem lft_lt {D D' : Nat → Prop} {i : Nat} (hi : i < n) (h : ∀ x, D x → D' x) (h1 : ¬ D i) (h2 : D' i) : lft n D' < lft n D :=
  filter_len_lt (l := List.range n) (y := i) (fun x _ hx => (@decide_eq_true _ (Classical.propDecidable _) fun hd => (@of_decide_eq_true _ (Classical.propDecidable _) hx) (h x hd))) (by simpa using hi)
    (@decide_eq_false _ (Classical.propDecidable _) fun hn => hn h2) (@decide_eq_true _ (Classical.propDecidable _) h1)
theorem Out.len' {D : Nat → Prop} {l : List (List Nat)} (h : Out n E D l) : l.length ≤ lft n D := by
  induction h with
  | nil => simp
  | @cons D i f r h1 h2 h3 h4 ih =>
    have := lft_lt (D := D) (D' := fun x => D x ∨ (x < n ∧ Scc n E i x)) (i := i) h1.1 (fun x hx => .inl hx) h1.2.1 (.inr ⟨h1.1, .refl _, .refl _⟩)
    simp only [List.length_cons]
    omega
theorem Out.len {D : Nat → Prop} {l : List (List Nat)} (h : Out n E D l) : l.length ≤ n := by
  refine Nat.le_trans h.len' ?_
  have := List.length_filter_le (fun v => @decide (¬ D v) (Classical.propDecidable _)) (List.range n)
  rwa [List.length_range] at this
theorem Ans.lt {D : Nat → Prop} {l : List (List Nat)} (a : Ans n E D l) {p : Nat} (hp : p < l.length) : (∀ x ∈ l[p], x < n) ∧ l[p].Pairwise (· < ·) ∧ l[p].length ≤ n := by
  obtain ⟨f, e⟩ := a.isF p hp
  rw [e]
  refine ⟨fun x hx => by simpa using (List.mem_filter.1 hx).1, List.Pairwise.filter _ List.pairwise_lt_range, ?_⟩
  have := List.length_filter_le f (List.range n)
  rwa [List.length_range] at this
theorem pw_notin {l : List Nat} (h : l.Pairwise (· < ·)) {j : Nat} (hj : j < l.length) : l[j] ∉ l.take j ∧ ∀ i (hi : i < j), l[i] < l[j] := by
  have hlt : ∀ i (hi : i < j), l[i] < l[j] := fun i hi => (List.pairwise_iff_getElem.1 h) i j (by omega) hj hi
  refine ⟨fun hm => ?_, hlt⟩
  obtain ⟨i, hi, e⟩ := List.mem_iff_getElem.1 hm
  rw [List.length_take] at hi
  rw [List.getElem_take] at e
  have := hlt i (by omega)
  omega
end
end Go.Fw

namespace Go.Fw
open Go
theorem st_whole {m : Mem} {b : Nat} {c vs : List Value} {T : TypeId} {J : Mem → Prop} {l : Lk J} {l' : Lk m} (hb : m b = some (.cells c.toArray T (0, 0))) (hl : vs.length = c.length) (h1 : vs.all Value.oneCell' = true) (k : J (m.set b (.cells vs.toArray T (0, 0)))) : stQ m ⟨b, 0, none⟩ 0 vs J l l' := by
  have h := stCells_row (t := T) (b := b) (o := 0) vs 0 m c hb (by omega) (fun v hv => List.all_eq_true.1 h1 v hv)
  refine ⟨_, h, ?_⟩
  have e : c.take (0 + 0) ++ vs ++ c.drop (0 + 0 + vs.length) = vs := by simp [List.drop_eq_nil_iff.2 (by omega : c.length ≤ vs.length)]
  rw [e]; exact k
end Go.Fw

namespace Go.Fw
open Go.Proofs

def nats (l : List Nat) : List Value := l.map fun i => .int .i64 (i : Nat)

structure WB where
  w : Nat
  i : Nat
  l : Nat
  o : Nat
  p : Nat

/-- the walk's memory -/
structure WRep (m : Mem) (n : Nat) (ev : Value) (B : WB) (rv : Value) (s : TS) : Prop where
  hw : m B.w = some (.cells [ev, .slice (some ⟨B.i, 0, none⟩) n n, .slice (some ⟨B.l, 0, none⟩) n n, .slice (some ⟨B.o, 0, none⟩) n n, rv, .slice (some ⟨B.p, 0, none⟩) n n, .int .i64 s.many, .int .i64 s.clock].toArray 107 (0, 0))
  hi : m B.i = some (.cells (ri n s.idx).toArray 3 (0, 0))
  hl : m B.l = some (.cells (ri n s.low).toArray 3 (0, 0))
  ho : m B.o = some (.cells (rb n s.opn).toArray 4 (0, 0))
  hp : m B.p = some (.cells (ri n s.part).toArray 3 (0, 0))
  hr : Own m 3 1 rv s.row.length (nats s.row)
  d : B.w ≠ B.i ∧ B.w ≠ B.l ∧ B.w ≠ B.o ∧ B.w ≠ B.p ∧ B.i ≠ B.l ∧ B.i ≠ B.o ∧ B.i ≠ B.p ∧ B.l ≠ B.o ∧ B.l ≠ B.p ∧ B.o ≠ B.p
  dr : ∀ b ∈ blkOf rv, b ≠ B.w ∧ b ≠ B.i ∧ b ≠ B.l ∧ b ≠ B.o ∧ b ≠ B.p

def WB.all (B : WB) (rv : Value) : List Nat := [B.w, B.i, B.l, B.o, B.p] ++ blkOf rv

set_option maxHeartbeats 1000000 in
theorem come_spec (m : Mem) (n : Nat) (ev : Value) (B : WB) (rv : Value) (s : TS) (v : Nat) (h : WRep m n ev B rv s) (hv : v < n) (hc : s.clock < 1000000) (hrl : s.row.length < 1000000) :
    MC Try.prog 67 [.pointer (some ⟨B.w, 0, none⟩), .int .i64 v] m fun r m' => r = .agg #[.int .i64 v, .int .i64 0] ∧ ∃ rv', WRep m' n ev B rv' (s.come v) ∧ Fr m m' (B.all rv) ∧ (∀ b ∈ blkOf rv', b ∈ blkOf rv ∨ m b = none) := by
  obtain ⟨hw, hi, hl, ho, hp, hr, ⟨d1, d2, d3, d4, d5, d6, d7, d8, d9, d10⟩, dr⟩ := h
  refine MC_start Try.func67 graph_walk_come_ok (by kernel_rfl) (by simp [Try.f67]) ?_
  simp (disch := omega) only [go_sem, wrO]
  refine newO_intro fun bn hbn => ?_
  have n1 : bn ≠ B.w := fun e => by rw [e, hw] at hbn; cases hbn
  have n2 : bn ≠ B.i := fun e => by rw [e, hi] at hbn; cases hbn
  have n3 : bn ≠ B.l := fun e => by rw [e, hl] at hbn; cases hbn
  have n4 : bn ≠ B.o := fun e => by rw [e, ho] at hbn; cases hbn
  have n5 : bn ≠ B.p := fun e => by rw [e, hp] at hbn; cases hbn
  have n6 : ∀ b ∈ blkOf rv, b ≠ bn := fun b hb e => hr.there b hb (by rw [e]; exact hbn)
  simp (disch := omega) only [go_sem, wrO, hw, hi, hl, ho]
  generalize hm1 : Mem.set (Mem.set (Mem.set (Mem.set (Mem.set m bn _) B.w _) B.i _) B.l _) B.o _ = m1
  have w1 := (congrFun hm1 B.w).symm
  have i1 := (congrFun hm1 B.i).symm
  have l1 := (congrFun hm1 B.l).symm
  have o1 := (congrFun hm1 B.o).symm
  have p1 := (congrFun hm1 B.p).symm
  have r1 := (congrFun hm1 bn).symm
  simp (disch := omega) only [go_sem, wrO, hp] at w1 i1 l1 o1 p1 r1
  have f1 : Fr m m1 [B.w, B.i, B.l, B.o] := by
    rw [← hm1]
    exact ((((Fr.new _ hbn).transS (Fr.set (by simp))).transS (Fr.set (by simp))).transS (Fr.set (by simp))).transS (Fr.set (by simp))
  clear hm1 hw hi hl ho
  refine newO_intro fun b2 hb2 => ?_
  have f2 : Fr m1 (m1.set b2 (.cells [Value.int .i64 v].toArray 3)) [] := Fr.new _ hb2
  simp (disch := omega) only [go_sem, wrO]
  refine app_own (n := s.row.length) (xs := nats s.row) (k := 1) (c := 1) (news := [.int .i64 v]) (hr.frame (f1.trans0 f2) (fun b hb => by have := dr b hb; simp; omega)) rfl ?_ rfl (by simp [Value.oneCell']) rfl (by omega) (by omega) ?_
  · exact ldS_cell (l := [.int .i64 v]) (set_self _ _) (by simp)
  intro rv' m2 hr' f3 hblk
  have d' : ∀ x, (∀ b ∈ blkOf rv, b ≠ x) → x ∉ blkOf rv := fun x h hx => h x hx rfl
  have w2 := f3.get (f2.get0 w1) (d' _ fun b hb => (dr b hb).1)
  have i2 := f3.get (f2.get0 i1) (d' _ fun b hb => (dr b hb).2.1)
  have l2 := f3.get (f2.get0 l1) (d' _ fun b hb => (dr b hb).2.2.1)
  have o2 := f3.get (f2.get0 o1) (d' _ fun b hb => (dr b hb).2.2.2.1)
  have p2 := f3.get (f2.get0 p1) (d' _ fun b hb => (dr b hb).2.2.2.2)
  have r2 := f3.get (f2.get0 r1) (d' _ n6)
  have t2 : ∀ {x o}, m1 x = some o → (m1.set b2 (.cells [Value.int .i64 v].toArray 3)) x ≠ none := fun {x o} h e => by have := f2.get0 h; rw [e] at this; cases this
  have dr' : ∀ b ∈ blkOf rv', b ≠ B.w ∧ b ≠ B.i ∧ b ≠ B.l ∧ b ≠ B.o ∧ b ≠ B.p ∧ b ≠ bn := by
    intro b hb
    rcases hblk b hb with h | h
    · have := dr b h; have := n6 b h; omega
    · exact ⟨fun e => t2 w1 (e ▸ h), fun e => t2 i1 (e ▸ h), fun e => t2 l1 (e ▸ h), fun e => t2 o1 (e ▸ h), fun e => t2 p1 (e ▸ h), fun e => t2 r1 (e ▸ h)⟩
  obtain ⟨ra, rc, rfl⟩ := hr'.form
  simp (disch := omega) only [go_sem, wrO, w2, r2]
  refine st_whole (c := [.int .i64 0, .int .i64 0]) (by simp (disch := omega) only [go_sem, r2]; rfl) rfl rfl ?_
  simp (disch := omega) only [go_sem]
  refine post_intro ⟨rfl, _, ⟨?_, ?_, ?_, ?_, ?_, ?_, ⟨d1, d2, d3, d4, d5, d6, d7, d8, d9, d10⟩, fun b hb => by have := dr' b hb; omega⟩, ?_, ?_⟩
  · simp (disch := omega) only [go_sem, wrO]; rfl
  · simp (disch := omega) only [go_sem, wrO, i2]; rfl
  · simp (disch := omega) only [go_sem, wrO, l2]; rfl
  · simp (disch := omega) only [go_sem, wrO, o2]; rfl
  · simp (disch := omega) only [go_sem, wrO, p2]; rfl
  · have : Own m2 3 1 (.slice ra (s.row.length + 1) rc) (s.come v).row.length (nats (s.come v).row) := by
      simp only [TS.come, List.length_append, List.length_cons, List.length_nil, nats, List.map_append, List.map_cons, List.map_nil]; exact hr'
    refine this.frame (S := [B.w, bn]) ((Fr.set (by simp)).transS (Fr.set (by simp))) (fun b hb => by have := dr' b hb; simp; omega)
  · have g1 : Fr m m2 (B.all rv) := (((f1.trans0 f2).sub (fun x hx => by simp [WB.all] at *; omega)).transS (f3.sub (fun x hx => by simp [WB.all, hx])))
    exact (g1.transS (Fr.set (by simp [WB.all]))).trans (T := [bn]) (Fr.set (by simp)) (fun x hx hne => by simp only [List.mem_singleton] at hx; subst hx; exact (hne hbn).elim)
  · intro b hb
    rcases hblk b hb with h | h
    · exact .inl h
    · right
      cases hb0 : m b with
      | none => rfl
      | some o =>
        exfalso
        have hne := dr' b hb
        have := f1.get hb0 (by simp; omega)
        exact t2 this h
end Go.Fw

namespace Go.Fw
open Go.Proofs

theorem opn_step (f : Nat → Bool) (x : Nat) (l : List Nat) : Up (fun y => if y ∈ l then false else f y) x false = fun y => if y ∈ x :: l then false else f y := by
  funext y
  by_cases h : y = x
  · subst h; simp [Up]
  · simp [Up, h]
theorem part_step (f : Nat → Int) (k : Int) (x : Nat) (l : List Nat) : Up (fun y => if y ∈ l then k else f y) x k = fun y => if y ∈ x :: l then k else f y := by
  funext y
  by_cases h : y = x
  · subst h; simp [Up]
  · simp [Up, h]

set_option maxHeartbeats 1000000 in
theorem leave_no (m : Mem) (n : Nat) (ev : Value) (B : WB) (rv : Value) (s : TS) (v : Nat) (h : WRep m n ev B rv s) (hv : v < n) (hne : s.low v ≠ s.idx v) :
    MC Try.prog 68 [.pointer (some ⟨B.w, 0, none⟩), .int .i64 v] m fun r m' => r = .tuple #[] ∧ m' = m := by
  obtain ⟨hw, hi, hl, ho, hp, hr, ⟨d1, d2, d3, d4, d5, d6, d7, d8, d9, d10⟩, dr⟩ := h
  refine MC_start Try.func68 graph_walk_leave_ok (by kernel_rfl) (by simp [Try.f68]) ?_
  simp (disch := omega) only [go_sem, wrO, hw, hi, hl]
  exact post_intro ⟨rfl, rfl⟩

theorem take_len {α : Type} (l : List α) (k : Nat) (h : k < l.length) : l.take (k + 1) = l.take k ++ [l[k]] := List.take_succ_eq_append_getElem h

set_option maxHeartbeats 1000000 in
theorem leave_yes (m : Mem) (n : Nat) (ev : Value) (B : WB) (rv : Value) (s : TS) (v : Nat) (h : WRep m n ev B rv s) (hv : v < n) (heq : s.low v = s.idx v)
    (pre suf : List Nat) (hrow : s.row = pre ++ v :: suf) (hsuf : v ∉ suf) (hlt : ∀ x ∈ s.row, x < n) (hrl : s.row.length < 1000000) (hm : s.many < 1000000) :
    MC Try.prog 68 [.pointer (some ⟨B.w, 0, none⟩), .int .i64 v] m fun r m' => r = .tuple #[] ∧ ∃ rv', WRep m' n ev B rv' (s.pop v pre suf) ∧ Fr m m' (B.all rv) ∧ (∀ b ∈ blkOf rv', b ∈ blkOf rv) := by
  have h0 := h
  obtain ⟨hw, hi, hl, ho, hp, hr, ⟨d1, d2, d3, d4, d5, d6, d7, d8, d9, d10⟩, dr⟩ := h
  refine MC_start Try.func68 graph_walk_leave_ok (by kernel_rfl) (by simp [Try.f68]) ?_
  simp (disch := omega) only [go_sem, wrO, hw, hi, hl]
  refine loopQ_intro (fun g E m' => ∃ rv', g ≤ suf.length ∧ E = [(0, .pointer (some ⟨B.w, 0, none⟩)), (1, .int .i64 v)] ∧
    WRep m' n ev B rv' (s.popN (suf.drop g) (pre ++ v :: suf.take g)) ∧ Fr m m' (B.all rv) ∧ (∀ b ∈ blkOf rv', b ∈ blkOf rv)) suf.length rfl
    ⟨rv, Nat.le_refl _, rfl, ?_, Fr.refl _ _, fun b hb => hb⟩ ?_
  · have : s.popN (suf.drop suf.length) (pre ++ v :: suf.take suf.length) = s := by
      simp [TS.popN, ← hrow]
    rw [this]; exact h0
  rintro g E m1 ⟨rv1, hg, rfl, ⟨hw1, hi1, hl1, ho1, hp1, hr1, -, dr1⟩, f1, hb1⟩
  -- the row, its last
  have hlen : (pre ++ v :: suf.take g).length = pre.length + g + 1 := by simp [Nat.min_eq_left hg]; omega
  have hbig : pre.length + g + 1 < 1000000 := by
    have : s.row.length = pre.length + suf.length + 1 := by rw [hrow]; simp; omega
    omega
  have hr1' := hr1
  simp only [TS.popN, hlen] at hr1'
  obtain ⟨b, cap, tail, rfl, hb, hcap, hxl⟩ := hr1'.row (by omega)
  simp only [Nat.mul_one] at hcap hxl
  -- the last one
  obtain ⟨x, hx, hxn, hxv⟩ : ∃ x, (nats (pre ++ v :: suf.take g))[pre.length + g]? = some (.int .i64 (x : Nat)) ∧ x < n ∧ x = (v :: suf.take g)[g]'(by simp [Nat.min_eq_left hg]) := by
    refine ⟨_, ?_, ?_, rfl⟩
    · simp only [nats, List.getElem?_map]
      rw [List.getElem?_append_right (by omega), show pre.length + g - pre.length = g from by omega, List.getElem?_eq_getElem (by simp [Nat.min_eq_left hg])]
      rfl
    · apply hlt
      rw [hrow]
      refine List.mem_append_right _ ?_
      have := List.getElem_mem (l := v :: suf.take g) (n := g) (by simp [Nat.min_eq_left hg])
      rcases List.mem_cons.1 this with h | h
      · rw [h]; exact List.mem_cons_self ..
      · exact List.mem_cons_of_mem _ (List.mem_of_mem_take h)
  have hx2 : (nats (pre ++ v :: suf.take g) ++ tail)[pre.length + g]? = some (.int .i64 (x : Nat)) := by
    rw [List.getElem?_append_left (by rw [hxl]; omega)]; exact hx
  have dw := dr1 b (by simp [blkOf])
  simp only [TS.popN] at hw1
  simp only [TS.popN] at ho1 hp1 hi1 hl1
  simp (disch := omega) only [go_sem, wrO, hw1, hb, IntWalk.toNatUp, Nat.add_sub_cancel, hx2, ho1, hp1, Int.natCast_add, Int.natCast_one, opn_step, part_step]
  generalize hm2 : Mem.set (Mem.set (Mem.set m1 B.w _) B.o _) B.p _ = m2
  have w2 := (congrFun hm2 B.w).symm
  have i2 := (congrFun hm2 B.i).symm
  have l2 := (congrFun hm2 B.l).symm
  have o2 := (congrFun hm2 B.o).symm
  have p2 := (congrFun hm2 B.p).symm
  simp (disch := omega) only [go_sem, wrO, hi1, hl1] at w2 i2 l2 o2 p2
  have f2 : Fr m1 m2 [B.w, B.o, B.p] := by
    rw [← hm2]
    exact ((Fr.set (by simp)).transS (Fr.set (by simp))).transS (Fr.set (by simp))
  have hr2 : Own m2 3 1 (.slice (some ⟨b, 0, none⟩) (pre.length + g) cap) (pre.length + g) (nats ((pre ++ v :: suf.take g).take (pre.length + g))) := by
    have := (hr1'.shrink (k := pre.length + g) (by omega) (by omega)).frame f2 (fun b' hb' => by simp only [blkOf, List.mem_singleton] at hb'; subst hb'; simp; omega)
    simpa [nats, List.map_take] using this
  have f3 : Fr m m2 (B.all rv) := f1.transS (f2.sub fun x hx => by simp [WB.all] at *; omega)
  clear hm2
  have hgl : g - 1 < g ∨ g = 0 := by omega
  by_cases hxe : x = v
  · have hg0 : g = 0 := by
      rcases g with _ | g
      · rfl
      · exfalso
        rw [hxe] at hxv
        simp only [List.getElem_cons_succ, List.getElem_take] at hxv
        exact hsuf (hxv ▸ List.getElem_mem _)
    subst hg0
    have hxe' : (x : Int) = v := by omega
    simp (disch := omega) only [go_sem, wrO, w2]
    have f4 : Fr m2 (m2.set B.w (Obj.cells [ev, .slice (some ⟨B.i, 0, none⟩) n n, .slice (some ⟨B.l, 0, none⟩) n n, .slice (some ⟨B.o, 0, none⟩) n n, .slice (some ⟨b, 0, none⟩) pre.length cap, .slice (some ⟨B.p, 0, none⟩) n n, .int .i64 (s.many + 1), .int .i64 s.clock].toArray 107 (0, 0))) [B.w] := Fr.set (by simp)
    have e0 : (v :: suf.take 0)[0] = v := rfl
    subst hxe
    refine post_intro ⟨rfl, .slice (some ⟨b, 0, none⟩) pre.length cap, ⟨by simp (disch := omega) only [go_sem, wrO]; rfl, ?_, ?_, ?_, ?_, ?_, ⟨d1, d2, d3, d4, d5, d6, d7, d8, d9, d10⟩, dr1⟩, ?_, hb1⟩
    · exact f4.get i2 (by simp; omega)
    · exact f4.get l2 (by simp; omega)
    · exact f4.get o2 (by simp; omega)
    · exact f4.get p2 (by simp; omega)
    · have : Own m2 3 1 (.slice (some ⟨b, 0, none⟩) pre.length cap) pre.length (nats pre) := by simpa using hr2
      exact this.frame f4 (fun b' hb' => by simp only [blkOf, List.mem_singleton] at hb'; subst hb'; simp; omega)
    · exact f3.transS (f4.sub fun x hx => by simp [WB.all] at *; omega)
  · have hxe' : (x : Int) ≠ v := by omega
    simp (disch := omega) only [go_sem, wrO]
    obtain ⟨g, rfl⟩ : ∃ g', g = g' + 1 := by
      rcases g with _ | g
      · exact absurd (by simpa using hxv) hxe
      · exact ⟨g, rfl⟩
    simp only [List.getElem_cons_succ, List.getElem_take] at hxv
    have hdrop : suf.drop g = x :: suf.drop (g + 1) := by rw [List.drop_eq_getElem_cons (by omega), hxv]
    have htake : (pre ++ v :: suf.take (g + 1)).take (pre.length + (g + 1)) = pre ++ v :: suf.take g := by
      rw [List.take_append, List.take_of_length_le (by omega), show pre.length + (g + 1) - pre.length = g + 1 from by omega, List.take_succ_cons, List.take_take, Nat.min_eq_left (by omega)]
    rw [htake] at hr2
    refine handN_intro g (by omega) ⟨.slice (some ⟨b, 0, none⟩) (pre.length + (g + 1)) cap, by omega, rfl, ⟨w2, i2, l2, ?_, ?_, ?_, ⟨d1, d2, d3, d4, d5, d6, d7, d8, d9, d10⟩, dr1⟩, f3, hb1⟩
    · simp only [TS.popN, hdrop]; exact o2
    · simp only [TS.popN, hdrop]; exact p2
    · have hl3 : (pre ++ v :: suf.take g).length = pre.length + (g + 1) := by simp [Nat.min_eq_left (show g ≤ suf.length by omega)]
      simp only [TS.popN, hl3]; exact hr2
end Go.Fw

namespace Go.Fw
open Go.Proofs

theorem if_ft {α : Type} (a b : α) : (if false = true then a else b) = b := rfl
attribute [go_sem] if_ft
def ints (l : List Int) : List Value := l.map (.int .i64)
def wayV : List It → List Value
  | [] => []
  | i :: r => wayV r ++ [.int .i64 (i.node : Nat), .int .i64 (i.edge : Nat)]
theorem wayV_len : ∀ p, (wayV p).length = p.length * 2
  | [] => rfl
  | i :: r => by simp [wayV, wayV_len r]; omega
theorem wayV_node (i : It) (r : List It) (tail : List Value) : (wayV (i :: r) ++ tail)[r.length * 2]? = some (.int .i64 (i.node : Nat)) := by
  rw [wayV, List.append_assoc, List.getElem?_append_right (by rw [wayV_len]; exact Nat.le_refl _), wayV_len]; simp
theorem wayV_edge (i : It) (r : List It) (tail : List Value) : (wayV (i :: r) ++ tail)[r.length * 2 + 1]? = some (.int .i64 (i.edge : Nat)) := by
  rw [wayV, List.append_assoc, List.getElem?_append_right (by rw [wayV_len]; omega), wayV_len]
  rw [show r.length * 2 + 1 - r.length * 2 = 1 from by omega]; rfl
theorem wayV_setedge (i : It) (r : List It) (tail : List Value) (k : Nat) : (wayV (i :: r) ++ tail).set (r.length * 2 + 1) (.int .i64 (k : Nat)) = wayV ({ i with edge := k } :: r) ++ tail := by
  simp only [wayV, List.append_assoc]
  rw [List.set_append_right _ _ (by rw [wayV_len]; omega), wayV_len, show r.length * 2 + 1 - r.length * 2 = 1 from by omega]
  rfl
theorem wayV_take (i : It) (r : List It) : (wayV (i :: r)).take (r.length * 2) = wayV r := by
  rw [wayV, List.take_append_of_le_length (by rw [wayV_len]; exact Nat.le_refl _), List.take_of_length_le (by rw [wayV_len]; exact Nat.le_refl _)]

/-- a graph that can be read -/
def GRd (m : Mem) (n : Nat) (ev : Value) (E : Nat → List Int) : Prop :=
  ∃ a c L, ev = .slice a n c ∧ L.length = n ∧ Rd1 m a L ∧ ∀ v, v < n → (E v).length ≤ 1048576 ∧ ∃ a' c', L[v]? = some (.slice a' (E v).length c') ∧ Rd1 m a' (ints (E v))
theorem GRd.frame {m m' : Mem} {n : Nat} {ev : Value} {E : Nat → List Int} (h : GRd m n ev E) (f : Fr m m' []) : GRd m' n ev E := by
  obtain ⟨a, c, L, h1, h2, h3, h4⟩ := h
  exact ⟨a, c, L, h1, h2, h3.frame f, fun v hv => ⟨(h4 v hv).1, let ⟨a', c', h5, h6⟩ := (h4 v hv).2; ⟨a', c', h5, h6.frame f⟩⟩⟩

structure WJ (m0 m : Mem) (n : Nat) (ev : Value) (E : Nat → List Int) (B : WB) (rv wv : Value) (s : TS) (path : List It) : Prop where
  w : WRep m n ev B rv s
  j : J n E s path
  way : Own m 125 2 wv path.length (wayV path)
  dw : ∀ b ∈ blkOf wv, b ∉ B.all rv
  fresh : ∀ b ∈ B.all rv, m0 b = none
  fw : ∀ b ∈ blkOf wv, m0 b = none
  fr : Fr m0 m []

theorem WRep.frame {m m' : Mem} {n : Nat} {ev : Value} {B : WB} {rv : Value} {s : TS} {S : List Nat} (h : WRep m n ev B rv s) (f : Fr m m' S) (hS : ∀ b ∈ B.all rv, b ∉ S) : WRep m' n ev B rv s := by
  have hS' : ∀ b, (b = B.w ∨ b = B.i ∨ b = B.l ∨ b = B.o ∨ b = B.p) → b ∉ S := fun b hb => hS b (by simp [WB.all]; omega)
  exact ⟨f.get h.hw (hS' _ (by simp)), f.get h.hi (hS' _ (by simp)), f.get h.hl (hS' _ (by simp)), f.get h.ho (hS' _ (by simp)), f.get h.hp (hS' _ (by simp)), h.hr.frame f (fun b hb => hS b (by simp [WB.all, hb])), h.d, h.dr⟩
theorem WRep.there {m : Mem} {n : Nat} {ev : Value} {B : WB} {rv : Value} {s : TS} (h : WRep m n ev B rv s) : ∀ b ∈ B.all rv, m b ≠ none := by
  intro b hb
  simp only [WB.all, List.cons_append, List.nil_append, List.mem_cons] at hb
  rcases hb with rfl | rfl | rfl | rfl | rfl | hb
  · rw [h.hw]; exact Option.some_ne_none _
  · rw [h.hi]; exact Option.some_ne_none _
  · rw [h.hl]; exact Option.some_ne_none _
  · rw [h.ho]; exact Option.some_ne_none _
  · rw [h.hp]; exact Option.some_ne_none _
  · exact h.hr.there b hb
theorem len_rowOf : ∀ p : List It, p.length ≤ (rowOf p).length
  | [] => by simp
  | i :: r => by rw [rowOf_cons]; have := len_rowOf r; simp; omega
theorem J.clock512 {s : TS} {p : List It} {n : Nat} {E : Nat → List Int} (j : J n E s p) (hn : n ≤ 512) : s.clock ≤ 512 := by
  have := cnt_le s.idx n; rw [← j.clock] at this; omega
theorem J.row512 {s : TS} {p : List It} {n : Nat} {E : Nat → List Int} (j : J n E s p) (hn : n ≤ 512) : s.many + s.row.length ≤ 512 := by
  have := j.clock512 hn; have := j.many; omega
/-- a new node is come to, over the top's next edge -/
theorem J.onto {n : Nat} {E : Nat → List Int} {s : TS} {i : It} {r : List It} (j : J n E s (i :: r)) {z : Nat} (hz : z < n) (h0 : s.idx z = 0) (he : i.edge < (E i.node).length) (hze : (z : Int) = (E i.node)[i.edge]) :
    J n E (s.come z) (⟨z, 0, []⟩ :: { i with edge := i.edge + 1 } :: r) := by
  have hi := j.its i (List.mem_cons_self ..)
  have hadj : Adj n E i.node z := ⟨hi.lt, hz, hze ▸ List.getElem_mem _⟩
  have j' := j.come hz h0 (fun i' r' e => by cases e; exact hadj)
  have hi' := j'.its i (List.mem_cons_of_mem _ (List.mem_cons_self ..))
  have hne : i.node ≠ z := fun e => j.vis i.node (by rw [j.row, mem_rowOf]; exact ⟨i, List.mem_cons_self .., .inl rfl⟩) (e ▸ h0)
  refine { j' with row := by rw [j'.row, rowOf_cons, rowOf_cons, rowOf_cons, rowOf_cons], its := fun k hk => ?_, chain := ?_ }
  · rcases List.mem_cons.1 hk with rfl | hk
    · exact j'.its _ (List.mem_cons_self ..)
    rcases List.mem_cons.1 hk with rfl | hk
    · refine ⟨hi'.lt, he, hi'.lowle, hi'.wit, fun y hy hm => ?_, hi'.rest⟩
      simp only [List.take_succ_eq_append_getElem he, List.mem_append, List.mem_singleton] at hm
      rcases hm with hm | hm
      · exact hi'.edges y hy hm
      · have hyz : y = z := by omega
        subst hyz
        have hidx : (s.come y).idx y = s.clock + 1 := Up_self _ _ _
        have hc : (0 : Int) ≤ s.clock := Int.natCast_nonneg _
        refine ⟨by rw [hidx]; omega, fun _ => ?_⟩
        rw [hidx]
        have h1 : (s.come y).low i.node = s.low i.node := Up_ne _ hne
        show (s.come y).low i.node ≤ _
        rw [h1]
        have := hi.lowle; have := j.top i.node; omega
    · exact j'.its k (List.mem_cons_of_mem _ (List.mem_cons_of_mem _ hk))
  · refine ⟨hadj, ?_⟩
    cases r with
    | nil => trivial
    | cons b r => exact j.chain

theorem rest_nodup {n : Nat} {E : Nat → List Int} {s : TS} {i : It} {r : List It} (j : J n E s (i :: r)) : i.node ∉ i.rest := by
  intro h
  have hs := j.srt
  rw [j.row, rowOf_cons, List.pairwise_append] at hs
  have := (List.pairwise_cons.1 hs.2.1).1 _ h
  omega

theorem leave_all (m : Mem) (n : Nat) (ev : Value) (E : Nat → List Int) (B : WB) (rv : Value) (s : TS) (i : It) (r : List It) (h : WRep m n ev B rv s) (hn : n ≤ 512) (j : J n E s (i :: r)) (he : i.edge = (E i.node).length) :
    MC Try.prog 68 [.pointer (some ⟨B.w, 0, none⟩), .int .i64 i.node] m fun rr m' => rr = .tuple #[] ∧ ∃ rv' s', WRep m' n ev B rv' s' ∧ Fr m m' (B.all rv) ∧ (∀ b ∈ blkOf rv', b ∈ blkOf rv) ∧ s'.idx = s.idx ∧
      (r = [] → J n E s' []) ∧ (∀ b r', r = b :: r' → ∃ path', J n E (s'.lower b.node (s'.low i.node)) path' ∧ wayV path' = wayV r ∧ costP E path' = costP E r ∧ path'.length = r.length) := by
  have hi := j.its i (List.mem_cons_self ..)
  have hrl := j.row512 hn
  by_cases hlow : s.low i.node = s.idx i.node
  · refine MC.mono (leave_yes m n ev B rv s i.node h hi.lt hlow (rowOf r) i.rest (by rw [j.row, rowOf_cons]) (rest_nodup j) j.lt (by omega) (by omega)) ?_
    rintro v m' ⟨rfl, rv', hw', f, hb⟩
    have jt := j.tell he hlow
    refine ⟨rfl, rv', _, hw', f, hb, rfl, fun e => e ▸ jt, ?_⟩
    rintro b r' rfl
    refine ⟨b :: r', ?_, rfl, rfl, rfl⟩
    have hbi := j.its b (List.mem_cons_of_mem _ (List.mem_cons_self ..))
    have hlt : s.idx b.node < s.idx i.node := by
      have hs := j.srt
      rw [j.row, rowOf_cons, List.pairwise_append] at hs
      exact hs.2.2 b.node (mem_rowOf.2 ⟨b, List.mem_cons_self .., .inl rfl⟩) i.node (List.mem_cons_self ..)
    have : (s.pop i.node (rowOf (b :: r')) i.rest).lower b.node ((s.pop i.node (rowOf (b :: r')) i.rest).low i.node) = s.pop i.node (rowOf (b :: r')) i.rest := by
      show { s.pop i.node (rowOf (b :: r')) i.rest with low := Up s.low b.node (min (s.low b.node) (s.low i.node)) } = _
      have h1 : Up s.low b.node (min (s.low b.node) (s.low i.node)) = s.low := by
        funext x
        by_cases e : x = b.node
        · rw [e, Up_self]; have := hbi.lowle; omega
        · rw [Up_ne _ e]
      rw [h1]; rfl
    rw [this]; exact jt
  · refine MC.mono (leave_no m n ev B rv s i.node h hi.lt hlow) ?_
    rintro v m' ⟨rfl, rfl⟩
    refine ⟨rfl, rv, s, h, Fr.refl _ _, fun b hb => hb, rfl, ?_, ?_⟩
    · rintro rfl; exact absurd j.bottom hlow
    · rintro b r' rfl
      exact ⟨_, j.hang he hlow, rfl, rfl, rfl⟩

set_option maxHeartbeats 2000000 in
theorem from_spec (m0 m : Mem) (n : Nat) (ev : Value) (E : Nat → List Int) (B : WB) (rv : Value) (s : TS) (v : Nat) (hn : n ≤ 512) (hg : GRd m0 n ev E) (hw : WRep m n ev B rv s) (hj : J n E s []) (hfresh : ∀ b ∈ B.all rv, m0 b = none) (hfr : Fr m0 m []) (hv : v < n) (h0 : s.idx v = 0) :
    MC Try.prog 53 [.pointer (some ⟨B.w, 0, none⟩), .int .i64 v] m fun r m' => r = .tuple #[] ∧ ∃ rv' s', WRep m' n ev B rv' s' ∧ J n E s' [] ∧ (∀ b ∈ B.all rv', m0 b = none) ∧ Fr m0 m' [] ∧ s'.idx v ≠ 0 ∧ (∀ x, s.idx x ≠ 0 → s'.idx x ≠ 0) := by
  refine MC_start Try.func53 graph_walk_from_ok (by kernel_rfl) (by simp [Try.f53]) ?_
  simp (disch := omega) only [go_sem, wrO]
  refine call_with (come_spec m n ev B rv s v hw hv (by have := hj.clock512 hn; omega) (by have := hj.row512 hn; omega)) ?_
  rintro r1 m1 ⟨rfl, rv1, hw1, f1, hb1⟩
  simp (disch := omega) only [go_sem, wrO]
  refine newO_intro fun bw hbw => ?_
  have j1 : J n E (s.come v) [⟨v, 0, []⟩] := hj.come hv h0 (fun i r e => by cases e)
  have hm0 : ∀ {b : Nat}, m b = none → m0 b = none := fun {b} h => by
    cases h' : m0 b with
    | none => rfl
    | some o => rw [hfr.get0 h'] at h; cases h
  have fr1 : Fr m0 m1 [] := hfr.trans f1 (fun x hx hne => (hne (hfresh x hx)).elim)
  have hm1 : ∀ {b : Nat}, m1 b = none → m0 b = none := fun {b} h => by
    cases h' : m0 b with
    | none => rfl
    | some o => rw [fr1.get0 h'] at h; cases h
  have fresh1 : ∀ b ∈ B.all rv1, m0 b = none := fun b hb => by
    simp only [WB.all, List.mem_append] at hb
    rcases hb with hb | hb
    · exact hfresh b (by simp only [WB.all, List.mem_append]; exact .inl hb)
    · rcases hb1 b hb with h | h
      · exact hfresh b (by simp only [WB.all, List.mem_append]; exact .inr h)
      · exact hm0 h
  simp (disch := omega) only [go_sem, wrO]
  refine loopQ_intro (fun g Ev m' => ∃ rv' wv s' path, g = cost E s'.idx n + costP E path ∧ Ev = [(0, .pointer (some ⟨B.w, 0, none⟩)), (4, wv)] ∧ WJ m0 m' n ev E B rv' wv s' path ∧ s'.idx v ≠ 0 ∧ (∀ x, s.idx x ≠ 0 → s'.idx x ≠ 0))
    _ rfl ⟨rv1, .slice (some ⟨bw, 0, none⟩) 1 1, s.come v, [⟨v, 0, []⟩], rfl, rfl, ⟨hw1.frame (Fr.new _ hbw) (fun b hb => List.not_mem_nil), j1, Own.new rfl, ?_, fresh1, ?_, fr1.trans0 (Fr.new _ hbw)⟩, ?_, ?_⟩ ?_
  · intro b hb hb'
    simp only [blkOf, List.mem_singleton] at hb; subst hb
    exact hw1.there _ hb' hbw
  · intro b hb
    simp only [blkOf, List.mem_singleton] at hb; subst hb
    exact hm1 hbw
  · show Up s.idx v _ v ≠ 0
    rw [Up_self]; have : (0 : Int) ≤ s.clock := Int.natCast_nonneg _; omega
  · intro x hx
    show Up s.idx v _ x ≠ 0
    by_cases e : x = v
    · rw [e, Up_self]; have : (0 : Int) ≤ s.clock := Int.natCast_nonneg _; omega
    · rw [Up_ne _ e]; exact hx
  clear hw1 j1 fr1 hm1 fresh1 hb1 f1 hbw bw
  rintro g Ev m2 ⟨rv2, wv, s2, path, rfl, rfl, ⟨w2, j2, way, dw, fresh, fw, fr⟩, hv2, hmono⟩
  cases path with
  | nil =>
    obtain ⟨a, c, rfl⟩ := way.form
    simp (disch := omega) only [go_sem, wrO, List.length_nil]
    exact post_intro ⟨rfl, rv2, s2, w2, j2, fresh, fr, hv2, hmono⟩
  | cons i r =>
    obtain ⟨bw, cap, tail, rfl, hb, hcap, hxl⟩ := way.row (by simp)
    simp only [List.length_cons] at hb hcap hxl way
    have hi := j2.its i (List.mem_cons_self ..)
    have hin := hi.lt
    have hie := hi.e
    have ck := j2.clock512 hn
    have rw5 := j2.row512 hn
    have hpl : r.length + 1 ≤ 512 := by have := len_rowOf (i :: r); rw [← j2.row] at this; simp only [List.length_cons] at this; omega
    obtain ⟨ea, ec, L, rfl, hL, hLr, hLv⟩ := hg.frame fr
    obtain ⟨hbig, a', c', hLi, hrow⟩ := hLv i.node hin
    have hLi' : i.node < L.length := by omega
    obtain ⟨be, oe, rfl, hce⟩ := hLr.at hLi'
    rw [List.getElem?_eq_getElem hLi', Option.some.injEq] at hLi
    rw [hLi] at hce
    have hx0 := wayV_node i r tail
    have hx1 := wayV_edge i r tail
    have hlenw : r.length * 2 + 1 < (wayV (i :: r) ++ tail).length := by simp only [List.length_append, wayV_len, List.length_cons]; omega
    obtain ⟨hw2, hi2, hl2, ho2, hp2, hr2, ⟨d1, d2, d3, d4, d5, d6, d7, d8, d9, d10⟩, dr⟩ := w2
    have hdw := dw bw (by simp [blkOf])
    have hdw' : bw ≠ B.w ∧ bw ≠ B.i ∧ bw ≠ B.l ∧ bw ≠ B.o ∧ bw ≠ B.p := by simp [WB.all] at hdw; omega
    simp (disch := omega) only [go_sem, wrO, List.length_cons, Int.natCast_add, Int.natCast_one, Int.add_sub_cancel, hb, hx0, hx1, hw2, hce]
    refine condB_dec (fun hed => ?_) (fun hed => ?_)
    · simp (disch := omega) only [go_sem, wrO, hb, hx0]
      have w2 : WRep m2 n (.slice (some ⟨be, oe, none⟩) n ec) B rv2 s2 := ⟨hw2, hi2, hl2, ho2, hp2, hr2, ⟨d1, d2, d3, d4, d5, d6, d7, d8, d9, d10⟩, dr⟩
      refine call_with (leave_all m2 n _ E B rv2 s2 i r w2 hn j2 (by omega)) ?_
      rintro rr m3 ⟨rfl, rv3, s3, w3, f3, hb3, hidx, hbot, hup⟩
      have way3 : Own m3 125 2 (.slice (some ⟨bw, 0, none⟩) r.length cap) r.length (wayV r) := by
        have := (way.shrink (k := r.length) (by omega) (by omega)).frame f3 (fun b hb => by simp only [blkOf, List.mem_singleton] at hb; subst hb; exact hdw)
        rwa [wayV_take] at this
      have fr3 : Fr m0 m3 [] := fr.trans f3 (fun x hx hne => (hne (fresh x hx)).elim)
      have all3 : ∀ b ∈ B.all rv3, b ∈ B.all rv2 := fun b hb => by
        simp only [WB.all, List.mem_append] at hb ⊢
        exact hb.imp (fun h => h) (hb3 b)
      have hcost : cost E s3.idx n + costP E r < cost E s2.idx n + costP E (i :: r) := by rw [hidx]; simp [costP]
      simp (disch := omega) only [go_sem, wrO, Int.natCast_add, Int.natCast_one, Int.add_sub_cancel]
      cases r with
      | nil =>
        simp (disch := omega) only [go_sem, wrO, List.length_nil]
        exact handN_intro _ hcost ⟨rv3, _, s3, [], rfl, rfl, ⟨w3, hbot rfl, way3, fun b hb hb' => dw b hb (all3 b hb'), fun b hb => fresh b (all3 b hb), fw, fr3⟩, by rw [hidx]; exact hv2, fun x hx => by rw [hidx]; exact hmono x hx⟩
      | cons b r' =>
        obtain ⟨path', jp, hway', hcost', hlen'⟩ := hup b r' rfl
        have hbn : b.node < n := (j2.its b (List.mem_cons_of_mem _ (List.mem_cons_self ..))).lt
        obtain ⟨bw', cap', tail', e', hb', hcap', hxl'⟩ := way3.row (by simp)
        cases e'
        simp only [List.length_cons] at hpl
        have hy0 := wayV_node b r' tail'
        obtain ⟨hw3, hi3, hl3, ho3, hp3, hr3, -, dr3⟩ := w3
        simp (disch := omega) only [go_sem, wrO, List.length_cons, Int.natCast_add, Int.natCast_one, Int.add_sub_cancel, hb', hy0, hw3, hl3]
        have f4 : Fr m3 (m3.set B.l (.cells (ri n (Up s3.low b.node (min (s3.low b.node) (s3.low i.node)))).toArray 3 (0, 0))) [B.l] := Fr.set (by simp)
        have dl3 : ∀ b' ∈ blkOf rv3, b' ≠ B.w ∧ b' ≠ B.i ∧ b' ≠ B.l ∧ b' ≠ B.o ∧ b' ≠ B.p := dr3
        refine handN_intro (cost E s3.idx n + costP E path') (by rw [hcost']; exact hcost) ⟨rv3, _, s3.lower b.node (s3.low i.node), path', rfl, rfl, ⟨⟨?_, ?_, ?_, ?_, ?_, ?_, ⟨d1, d2, d3, d4, d5, d6, d7, d8, d9, d10⟩, dr3⟩, jp, ?_, fun b hb hb' => dw b hb (all3 b hb'), fun b hb => fresh b (all3 b hb), fw, ?_⟩, by rw [lower_idx, hidx]; exact hv2, fun x hx => by rw [lower_idx, hidx]; exact hmono x hx⟩
        · exact f4.get hw3 (by simp; omega)
        · exact f4.get hi3 (by simp; omega)
        · simp (disch := omega) only [go_sem, wrO]; rfl
        · exact f4.get ho3 (by simp; omega)
        · exact f4.get hp3 (by simp; omega)
        · exact hr3.frame f4 (fun b' hb' => by have := dr3 b' hb'; simp; omega)
        · rw [hlen', hway']
          exact way3.frame f4 (fun b' hb' => by simp only [blkOf, List.mem_singleton] at hb'; subst hb'; simp; omega)
        · exact fr3.trans f4 (fun x hx hne => by simp only [List.mem_singleton] at hx; subst hx; exact (hne (fresh _ (by simp [WB.all]))).elim)
    · have hlt : i.edge < (E i.node).length := by omega
      obtain ⟨bx, ox, rfl, hcx⟩ := hrow.at (i := i.edge) (by simpa [ints] using hlt)
      simp only [ints, List.getElem_map] at hcx
      obtain ⟨to, hto⟩ : ∃ to, (E i.node)[i.edge] = to := ⟨_, rfl⟩
      rw [hto] at hcx
      have hse := wayV_setedge i r tail (i.edge + 1)
      simp only [Int.natCast_add, Int.natCast_one] at hse
      simp (disch := omega) only [go_sem, wrO, hb, hx0, hx1, hw2, hce, hcx, hse]
      generalize hm3 : Mem.set m2 bw _ = m3
      have f3 : Fr m2 m3 [bw] := by rw [← hm3]; exact Fr.set (by simp)
      have hb3 : m3 bw = some (.cells (wayV ({ i with edge := i.edge + 1 } :: r) ++ tail).toArray 125 (0, 0)) := by rw [← hm3]; simp [Mem.set]
      have hw3 := f3.get hw2 (by simp; omega)
      have hi3 := f3.get hi2 (by simp; omega)
      have hl3 := f3.get hl2 (by simp; omega)
      have ho3 := f3.get ho2 (by simp; omega)
      have hp3 := f3.get hp2 (by simp; omega)
      have hr3 := hr2.frame f3 (fun b hb => by
        have : b ∈ B.all rv2 := by simp [WB.all, hb]
        simp only [List.mem_singleton]; rintro rfl; exact hdw this)
      have w3 : WRep m3 n (.slice (some ⟨be, oe, none⟩) n ec) B rv2 s2 := ⟨hw3, hi3, hl3, ho3, hp3, hr3, ⟨d1, d2, d3, d4, d5, d6, d7, d8, d9, d10⟩, dr⟩
      have hx3 := wayV_node { i with edge := i.edge + 1 } r tail
      have way3 : Own m3 125 2 (.slice (some ⟨bw, 0, none⟩) (r.length + 1) cap) (r.length + 1) (wayV ({ i with edge := i.edge + 1 } :: r)) := by
        refine ⟨by rw [wayV_len]; rfl, .inr ⟨bw, cap, tail, rfl, hb3, ?_⟩⟩
        have := way.2
        rcases this with ⟨e, _⟩ | ⟨b', cap', tail', e, hb', hl'⟩
        · cases e
        · cases e
          rw [hb] at hb'
          have e2 : wayV (i :: r) ++ tail = wayV (i :: r) ++ tail' := by injection hb' with h; injection h with h; simpa using h
          rw [← e2] at hl'
          rw [← hl']; simp [wayV]
      have fr3 : Fr m0 m3 [] := fr.trans f3 (fun x hx hne => by simp only [List.mem_singleton] at hx; subst hx; exact (hne (fw _ (by simp [blkOf]))).elim)
      have hcost : cost E s2.idx n + costP E ({ i with edge := i.edge + 1 } :: r) < cost E s2.idx n + costP E (i :: r) := by simp [costP]; omega
      clear hm3
      by_cases hneg : to < 0
      · have e1 := decide_eq_true hneg
        simp (disch := omega) only [go_sem, wrO, e1]
        exact handN_intro _ hcost ⟨rv2, _, s2, _, rfl, rfl, ⟨w3, j2.pass hlt (fun z hz h => by omega), way3, dw, fresh, fw, fr3⟩, hv2, hmono⟩
      have e1 := decide_eq_false hneg
      obtain ⟨z, rfl⟩ : ∃ z : Nat, to = z := ⟨to.toNat, by omega⟩
      simp (disch := omega) only [go_sem, wrO, e1, hw3]
      by_cases hbig : n ≤ z
      · simp (disch := omega) only [go_sem, wrO]
        exact handN_intro _ hcost ⟨rv2, _, s2, _, rfl, rfl, ⟨w3, j2.pass hlt (fun z hz h => by omega), way3, dw, fresh, fw, fr3⟩, hv2, hmono⟩
      have hz : z < n := by omega
      simp (disch := omega) only [go_sem, wrO, hw3, hi3]
      refine condB_dec (fun hidx0 => ?_) (fun hidx0 => ?_)
      · simp (disch := omega) only [go_sem, wrO]
        refine call_with (come_spec m3 n _ B rv2 s2 z w3 hz (by omega) (by omega)) ?_
        rintro rr m4 ⟨rfl, rv4, w4, f4, hb4⟩
        simp (disch := omega) only [go_sem, wrO]
        refine newO_intro fun bn hbn => ?_
        have jn := j2.onto hz hidx0 hlt hto.symm
        simp (disch := omega) only [go_sem, wrO]
        have way4 := way3.frame f4 (fun b hb => by simp only [blkOf, List.mem_singleton] at hb; subst hb; exact hdw)
        have way5 := way4.frame0 (Fr.new (o := .cells [Value.int .i64 z, Value.int .i64 0].toArray 125) [] hbn)
        have hm3 : ∀ {b : Nat}, m3 b = none → m0 b = none := fun {b} h => by
          cases h' : m0 b with
          | none => rfl
          | some o => rw [fr3.get0 h'] at h; cases h
        have hm4 : ∀ {b : Nat}, (m4.set bn (.cells [Value.int .i64 z, Value.int .i64 0].toArray 125)) b = none → m4 b = none ∧ m0 b = none := fun {b} h => by
          have h4 : m4 b = none := by
            cases h' : m4 b with
            | none => rfl
            | some o => rw [(Fr.new _ hbn).get0 h'] at h; cases h
          refine ⟨h4, ?_⟩
          cases h' : m0 b with
          | none => rfl
          | some o =>
            have h3 := fr3.get0 h'
            by_cases hbb : b ∈ B.all rv2
            · rw [fresh b hbb] at h'; cases h'
            · rw [f4.get h3 hbb] at h4; cases h4
        refine app_own (n := r.length + 1) (k := 1) (c := 1) (news := [.int .i64 z, .int .i64 0]) way5 rfl ?_ rfl (by simp [Value.oneCell']) rfl (by omega) (by omega) ?_
        · exact ldS_cell (l := [.int .i64 z, .int .i64 0]) (set_self _ _) (by simp)
        intro wv5 m5 way6 f5 hblk
        simp (disch := omega) only [go_sem, wrO]
        have fresh4 : ∀ b ∈ B.all rv4, m0 b = none := fun b hb => by
          simp only [WB.all, List.mem_append] at hb
          rcases hb with hb | hb
          · exact fresh b (by simp only [WB.all, List.mem_append]; exact .inl hb)
          · rcases hb4 b hb with h | h
            · exact fresh b (by simp only [WB.all, List.mem_append]; exact .inr h)
            · exact hm3 h
        have dw4 : bw ∉ B.all rv4 := fun hb => by
          simp only [WB.all, List.mem_append] at hb
          rcases hb with hb | hb
          · exact hdw (by simp only [WB.all, List.mem_append]; exact .inl hb)
          · rcases hb4 _ hb with h | h
            · exact hdw (by simp only [WB.all, List.mem_append]; exact .inr h)
            · rw [hb3] at h; cases h
        have w5 : WRep m5 n (.slice (some ⟨be, oe, none⟩) n ec) B rv4 (s2.come z) :=
          (w4.frame (Fr.new [] hbn) (fun _ _ => List.not_mem_nil)).frame f5 (fun b hb1 hb' => by
            have e : b = bw := by simpa [blkOf] using hb'
            exact dw4 (e ▸ hb1))
        have fr5 : Fr m0 m5 [] := ((fr3.trans f4 (fun x hx hne => (hne (fresh x hx)).elim)).trans0 (Fr.new _ hbn)).trans f5 (fun x hx hne => (hne (fw x hx)).elim)
        have hcc := cost_up (E := E) s2.idx z (s2.clock + 1 : Int) hidx0 (by omega) n
        rw [if_pos hz] at hcc
        have hidx5 : (s2.come z).idx = Up s2.idx z (s2.clock + 1 : Int) := rfl
        refine handN_intro (cost E (s2.come z).idx n + costP E (⟨z, 0, []⟩ :: { i with edge := i.edge + 1 } :: r)) ?_ ⟨rv4, wv5, s2.come z, _, rfl, rfl, ⟨w5, jn, way6, fun b hb hb' => ?_, fresh4, fun b hb => ?_, fr5⟩, ?_, fun x hx => ?_⟩
        · rw [hidx5]; simp only [costP, List.map_cons, List.sum_cons] at hcost ⊢; omega
        · rcases hblk b hb with h | h
          · simp only [blkOf, List.mem_singleton] at h; subst h; exact dw4 hb'
          · exact w4.there b hb' (hm4 h).1
        · rcases hblk b hb with h | h
          · exact fw b h
          · exact (hm4 h).2
        · rw [hidx5]
          by_cases e : v = z
          · rw [e, Up_self]; omega
          · rw [Up_ne _ e]; exact hv2
        · rw [hidx5]
          by_cases e : x = z
          · rw [e, Up_self]; omega
          · rw [Up_ne _ e]; exact hmono x hx
      · simp (disch := omega) only [go_sem, wrO, hw3, ho3]
        have hadj : Adj n E i.node z := ⟨hin, hz, hto ▸ List.getElem_mem _⟩
        refine condB_split (fun hop => ?_) (fun hop => ?_)
        · simp (disch := omega) only [go_sem, wrO, hb3, hx3, hw3, hl3, hi3]
          have hzr : z ∈ s2.row := (j2.opn z hz).1 hop
          have jl := (j2.lower (v := i.node) (x := s2.idx z) ⟨z, hzr, rfl, .one hadj⟩).pass hlt (fun y hy h => by
            have : y = z := by omega
            subst this
            refine ⟨hidx0, fun _ => ?_⟩
            show Up s2.low i.node _ i.node ≤ s2.idx y
            rw [Up_self]; omega)
          have f4 : Fr m3 (m3.set B.l (.cells (ri n (Up s2.low i.node (min (s2.low i.node) (s2.idx z)))).toArray 3 (0, 0))) [B.l] := Fr.set (by simp)
          refine handN_intro _ hcost ⟨rv2, _, s2.lower i.node (s2.idx z), _, rfl, rfl, ⟨⟨?_, ?_, ?_, ?_, ?_, ?_, ⟨d1, d2, d3, d4, d5, d6, d7, d8, d9, d10⟩, dr⟩, jl, ?_, dw, fresh, fw, ?_⟩, hv2, hmono⟩
          · exact f4.get hw3 (by simp; omega)
          · exact f4.get hi3 (by simp; omega)
          · simp (disch := omega) only [go_sem, wrO]; rfl
          · exact f4.get ho3 (by simp; omega)
          · exact f4.get hp3 (by simp; omega)
          · exact hr3.frame f4 (fun b' hb' => by have := dr b' hb'; simp; omega)
          · exact way3.frame f4 (fun b' hb' => by simp only [blkOf, List.mem_singleton] at hb'; subst hb'; simp; omega)
          · exact fr3.trans f4 (fun x hx hne => by simp only [List.mem_singleton] at hx; subst hx; exact (hne (fresh _ (by simp [WB.all]))).elim)
        · simp (disch := omega) only [go_sem, wrO]
          have hnr : z ∉ s2.row := fun h => by rw [(j2.opn z hz).2 h] at hop; cases hop
          exact handN_intro _ hcost ⟨rv2, _, s2, _, rfl, rfl, ⟨w3, j2.pass hlt (fun y hy h => by
            have : y = z := by omega
            subst this; exact ⟨hidx0, fun h => (hnr h).elim⟩), way3, dw, fresh, fw, fr3⟩, hv2, hmono⟩
end Go.Fw

namespace Go.Fw
open Go.Proofs

def rv (n : Nat) (f : Nat → Value) : List Value := (List.range n).map f
theorem rv_len (n : Nat) (f : Nat → Value) : (rv n f).length = n := by simp [rv]
theorem rv_get (n : Nat) (f : Nat → Value) (k : Nat) (h : k < n) : (rv n f)[k]? = some (f k) := by simp [rv, List.getElem?_range h]
theorem rv_set (n : Nat) (f : Nat → Value) (k : Nat) (x : Value) : (rv n f).set k x = rv n (Up f k x) := by
  apply List.ext_getElem?
  intro i
  rw [List.getElem?_set]
  by_cases hi : i < n
  · rw [rv_get n _ i hi]
    split
    · rename_i e; subst e; rw [if_pos (by rw [rv_len]; exact hi), rv_get n _ k hi, Up_self]
    · rename_i e; rw [rv_get n _ i hi, Up_ne _ (fun h => e h.symm)]
  · have h1 : ∀ g, (rv n g)[i]? = none := fun g => List.getElem?_eq_none (by rw [rv_len]; omega)
    rw [h1, h1]
    split
    · rw [if_neg (by rw [rv_len]; omega)]
    · rfl
theorem rv_new (n : Nat) : (List.replicate n [Value.slice none 0 0]).flatten = rv n fun _ => .slice none 0 0 := by
  apply List.ext_getElem?
  intro i
  by_cases hi : i < n
  · rw [rv_get n _ i hi]
    simp [List.flatten_replicate_singleton, hi]
  · rw [List.getElem?_eq_none (by simp; omega), List.getElem?_eq_none (by rw [rv_len]; omega)]
attribute [go_sem] rv_len rv_get rv_set rv_new

/-- a row of rows of the call's own -/
structure Rows (m : Mem) (b N : Nat) (f : Nat → Value) (xs : Nat → List Nat) : Prop where
  hb : m b = some (.cells (rv N f).toArray 55 (0, 0))
  own : ∀ p, p < N → Own m 3 1 (f p) (xs p).length (nats (xs p))
  dis : ∀ p q, p < N → q < N → p ≠ q → ∀ x ∈ blkOf (f p), x ∉ blkOf (f q)
  nb : ∀ p, p < N → b ∉ blkOf (f p)
def InRows (b N : Nat) (f : Nat → Value) (x : Nat) : Prop := x = b ∨ ∃ p, p < N ∧ x ∈ blkOf (f p)
theorem Rows.there {m : Mem} {b N : Nat} {f : Nat → Value} {xs : Nat → List Nat} (h : Rows m b N f xs) {x : Nat} (hx : InRows b N f x) : m x ≠ none := by
  rcases hx with rfl | ⟨p, hp, hx⟩
  · rw [h.hb]; exact Option.some_ne_none _
  · exact (h.own p hp).there x hx
theorem Rows.new {m : Mem} {b N : Nat} : Rows (m.set b (.cells (rv N fun _ => .slice none 0 0).toArray 55)) b N (fun _ => .slice none 0 0) (fun _ => []) :=
  ⟨by simp [Mem.set], fun p _ => Own.nil _ _ _, fun p q _ _ _ x hx => by simp [blkOf] at hx, fun p _ => by simp [blkOf]⟩
theorem inRows_new {b N x : Nat} : InRows b N (fun _ => .slice none 0 0) x → x = b := by
  rintro (h | ⟨p, _, h⟩)
  · exact h
  · simp [blkOf] at h
theorem Rows.frame {m m' : Mem} {b N : Nat} {f : Nat → Value} {xs : Nat → List Nat} {S : List Nat} (h : Rows m b N f xs) (g : Fr m m' S) (hS : ∀ x ∈ S, ¬ InRows b N f x) : Rows m' b N f xs :=
  ⟨g.get h.hb (fun hb => hS _ hb (.inl rfl)), fun p hp => (h.own p hp).frame g (fun x hx hxS => hS x hxS (.inr ⟨p, hp, hx⟩)), h.dis, h.nb⟩
theorem Rows.frame0 {m m' : Mem} {b N : Nat} {f : Nat → Value} {xs : Nat → List Nat} (h : Rows m b N f xs) (g : Fr m m' []) : Rows m' b N f xs := h.frame g (fun _ hx => by cases hx)

/-- one is put behind a row -/
theorem Rows.step {m m1 m' : Mem} {b N : Nat} {f : Nat → Value} {xs : Nat → List Nat} (h : Rows m b N f xs) {p : Nat} (hp : p < N) {x : Nat} {v : Value} (f1 : Fr m m1 [])
    (hown : Own m' 3 1 v ((xs p).length + 1) (nats (xs p) ++ [.int .i64 (x : Nat)])) (f2 : Fr m1 m' (blkOf (f p))) (hblk : ∀ y ∈ blkOf v, y ∈ blkOf (f p) ∨ m1 y = none) :
    Rows (m'.set b (.cells (rv N (Up f p v)).toArray 55)) b N (Up f p v) (Up xs p (xs p ++ [x])) ∧ m' b = some (.cells (rv N f).toArray 55 (0, 0)) ∧
    Fr m1 (m'.set b (.cells (rv N (Up f p v)).toArray 55)) (b :: blkOf (f p)) ∧ (∀ y, InRows b N (Up f p v) y → InRows b N f y ∨ m1 y = none) := by
  have hb' : m' b = some (.cells (rv N f).toArray 55 (0, 0)) := f2.get (f1.get0 h.hb) (h.nb p hp)
  have hnb : b ∉ blkOf v := fun hb => by
    rcases hblk b hb with h1 | h1
    · exact h.nb p hp h1
    · rw [f1.get0 h.hb] at h1; cases h1
  have fs : Fr m' (m'.set b (.cells (rv N (Up f p v)).toArray 55)) [b] := Fr.set (by simp)
  have hdis : ∀ q, q < N → q ≠ p → ∀ y ∈ blkOf v, y ∉ blkOf (f q) := fun q hq hne y hy hy' => by
    rcases hblk y hy with h1 | h1
    · exact h.dis p q hp hq (fun e => hne e.symm) y h1 hy'
    · have := (h.own q hq).there y hy'
      obtain ⟨o, ho⟩ := Option.ne_none_iff_exists'.1 this
      rw [f1.get0 ho] at h1; cases h1
  refine ⟨⟨by simp [Mem.set], fun q hq => ?_, fun q r hq hr hne y hy => ?_, fun q hq => ?_⟩, hb', ?_, ?_⟩
  · by_cases e : q = p
    · subst e
      rw [Up_self, Up_self]
      have : Own m' 3 1 v (xs q ++ [x]).length (nats (xs q ++ [x])) := by simpa [nats] using hown
      exact this.frame fs (fun y hy => by simp only [List.mem_singleton]; rintro rfl; exact hnb hy)
    · rw [Up_ne _ e, Up_ne _ e]
      exact (((h.own q hq).frame0 f1).frame f2 (fun y hy hy' => h.dis q p hq hp e y hy hy')).frame fs (fun y hy => by simp only [List.mem_singleton]; rintro rfl; exact h.nb q hq hy)
  · by_cases e : q = p
    · subst e
      rw [Up_self] at hy
      rw [Up_ne _ (fun h => hne h.symm)]
      exact hdis r hr (fun h => hne h.symm) y hy
    · rw [Up_ne _ e] at hy
      by_cases e' : r = p
      · subst e'
        rw [Up_self]
        exact fun hy' => hdis q hq e y hy' hy
      · rw [Up_ne _ e']; exact h.dis q r hq hr hne y hy
  · by_cases e : q = p
    · subst e; rw [Up_self]; exact hnb
    · rw [Up_ne _ e]; exact h.nb q hq
  · exact (f2.sub (fun y hy => List.mem_cons_of_mem _ hy)).transS (Fr.set (List.mem_cons_self ..))
  · rintro y (rfl | ⟨q, hq, hy⟩)
    · exact .inl (.inl rfl)
    · by_cases e : q = p
      · subst e
        rw [Up_self] at hy
        rcases hblk y hy with h1 | h1
        · exact .inl (.inr ⟨q, hq, h1⟩)
        · exact .inr h1
      · rw [Up_ne _ e] at hy; exact .inl (.inr ⟨q, hq, hy⟩)

/-- a row of rows that can be read -/
def RdRows (m : Mem) (v : Value) (l : List (List Nat)) : Prop :=
  ∃ a c L, v = .slice a l.length c ∧ L.length = l.length ∧ Rd1 m a L ∧ ∀ (k : Nat) (r : List Nat), l[k]? = some r → ∃ a' c', L[k]? = some (.slice a' r.length c') ∧ Rd1 m a' (nats r)

theorem Own.rd {m : Mem} {t : TypeId} {n : Nat} {v : Value} {xs : List Value} (h : Own m t 1 v n xs) : ∃ a c, v = .slice a n c ∧ Rd1 m a xs := by
  obtain ⟨h1, ⟨rfl, rfl⟩ | ⟨b, cap, tail, rfl, hb, hl⟩⟩ := h
  · exact ⟨none, 0, rfl, .inl (List.eq_nil_of_length_eq_zero (by simpa using h1))⟩
  · refine ⟨_, _, rfl, .inr ⟨b, 0, rfl, fun i v hv => ?_⟩⟩
    rw [hb, cellAt_cells, List.getElem?_toArray, Nat.zero_add, List.getElem?_append_left]
    · exact hv
    · exact (List.getElem?_eq_some_iff.1 hv).1

theorem J.parts {n : Nat} {E : Nat → List Int} {s : TS} (j : J n E s []) (hall : ∀ v, v < n → s.idx v ≠ 0) : PT n E (fun v => (s.part v).toNat) s.many ∧ ri n s.part = ri n (fun v => ((s.part v).toNat : Int)) ∧ ∀ v, v < n → s.part v = ((s.part v).toNat : Int) := by
  have told : ∀ v, v < n → Told n s v := fun v hv => ⟨hv, hall v hv, by rw [j.row]; simp [rowOf]⟩
  have hnn : ∀ v, v < n → s.part v = ((s.part v).toNat : Int) := fun v hv => by have := (j.prange v (told v hv)).1; omega
  refine ⟨⟨fun v hv => ?_, fun u v hu hv => ?_, fun p hp => ?_, fun u v ha => ?_, ?_⟩, ?_, hnn⟩
  · have := j.prange v (told v hv); omega
  · rw [← j.part u v (told u hu) (told v hv)]
    have := hnn u hu; have := hnn v hv
    omega
  · obtain ⟨u, hu, e⟩ := j.psur p hp
    exact ⟨u, hu.1, by simp only [e]; omega⟩
  · have := j.up u v (told u ha.1) ha
    omega
  · have := j.many; have h1 := cnt_le s.idx n; rw [← j.clock] at h1; omega
  · apply List.map_congr_left
    intro v hv
    rw [hnn v (by simpa using hv)]
end Go.Fw

namespace Go.Fw
open Go.Proofs

/-- what Parts has made when it begins -/
def PStart (m m' : Mem) (n : Nat) (ev : Value) (B : WB) : Prop :=
  WRep m' n ev B (.slice none 0 0) ⟨fun _ => 0, fun _ => 0, fun _ => false, fun _ => 0, [], 0, 0⟩ ∧ (∀ b ∈ B.all (.slice none 0 0), m b = none) ∧ Fr m m' []

theorem pstart_of {m m' : Mem} {n : Nat} {ev : Value} {B : WB} (hw : m' B.w = some (.cells [ev, .slice (some ⟨B.i, 0, none⟩) n n, .slice (some ⟨B.l, 0, none⟩) n n, .slice (some ⟨B.o, 0, none⟩) n n, .slice none 0 0, .slice (some ⟨B.p, 0, none⟩) n n, .int .i64 0, .int .i64 0].toArray 107 (0, 0)))
    (hi : m' B.i = some (.cells (ri n fun _ => 0).toArray 3 (0, 0))) (hl : m' B.l = some (.cells (ri n fun _ => 0).toArray 3 (0, 0))) (ho : m' B.o = some (.cells (rb n fun _ => false).toArray 4 (0, 0))) (hp : m' B.p = some (.cells (ri n fun _ => 0).toArray 3 (0, 0)))
    (h0 : m B.w = none ∧ m B.i = none ∧ m B.l = none ∧ m B.o = none ∧ m B.p = none) (d : B.w ≠ B.i ∧ B.w ≠ B.l ∧ B.w ≠ B.o ∧ B.w ≠ B.p ∧ B.i ≠ B.l ∧ B.i ≠ B.o ∧ B.i ≠ B.p ∧ B.l ≠ B.o ∧ B.l ≠ B.p ∧ B.o ≠ B.p) (hf : Fr m m' []) : PStart m m' n ev B := by
  refine ⟨⟨hw, hi, hl, ho, hp, Own.nil _ _ _, d, by simp [blkOf]⟩, ?_, hf⟩
  intro b hb
  simp only [WB.all, blkOf, List.append_nil, List.mem_cons, List.not_mem_nil, or_false] at hb
  obtain ⟨h1, h2, h3, h4, h5⟩ := h0
  rcases hb with rfl | rfl | rfl | rfl | rfl <;> assumption

theorem new_ne {m : Mem} {b c : Nat} {o : Obj} (h : (m.set b o) c = none) : c ≠ b ∧ m c = none := by
  by_cases e : c = b
  · subst e; simp [Mem.set] at h
  · simp [Mem.set, e] at h; exact ⟨e, h⟩

theorem set_noneG {m : Mem} {b c : Nat} {o : Obj} : ((m.set b o) c = none) = (c ≠ b ∧ m c = none) := by
  apply propext
  exact ⟨new_ne, fun ⟨h1, h2⟩ => by simp [Mem.set, h1, h2]⟩
set_option maxHeartbeats 4000000 in
theorem parts_r4_ok (m : Mem) (n : Nat) (ea : Option Addr) (ec : Nat) (hn : n ≤ 512) (x13 : Value) (Q : Exit → Env → Mem → Prop) (hK : ∀ B m', PStart m m' n (.slice ea n ec) B → Q .normal [(0, .slice ea n ec), (4, .int .i64 (n : Nat)), (5, .pointer (some ⟨B.w, 0, none⟩))] m') :
    wpN Try.prog graph_Parts_r4 Q [(0, .slice ea n ec), (4, .int .i64 (n : Nat)), (13, x13)] m := by
  simp (disch := omega) only [go_sem, wrO]
  repeat' first
    | (refine both_intro ?_ ?_ <;> try simp (disch := omega) only [go_sem, wrO])
    | (refine newO_intro fun b hb => ?_
       try simp only [set_noneG] at hb
       simp (disch := omega) only [go_sem, wrO])
  all_goals
    refine hK ⟨_, _, _, _, _⟩ _ (pstart_of (set_self _ _) ?_ ?_ ?_ ?_ ⟨?_, ?_, ?_, ?_, ?_⟩ ⟨?_, ?_, ?_, ?_, ?_, ?_, ?_, ?_, ?_, ?_⟩ ?_)
  all_goals try dsimp only
  all_goals first
    | omega
    | (simp only [*]; done)
    | (simp (disch := omega) only [go_sem, wrO]; done)
    | (intro y hy _
       simp only [Mem.set]
       repeat' split
       all_goals first
         | rfl
         | (rename_i e; subst e; exact absurd (by simp only [*]) hy))
end Go.Fw

namespace Go.Fw
open Go.Proofs

/-- .. and lies in blocks of S -/
def Rd1In (m : Mem) (a : Option Addr) (l : List Value) (S : Nat → Prop) : Prop := l = [] ∨ ∃ b o, a = some ⟨b, o, none⟩ ∧ S b ∧ ∀ i v, l[i]? = some v → cellAt (m b) (o + i) = some v
def RdIn (m : Mem) (v : Value) (l : List (List Nat)) (S : Nat → Prop) : Prop :=
  ∃ a c L, v = .slice a l.length c ∧ L.length = l.length ∧ Rd1In m a L S ∧ ∀ (k : Nat) (r : List Nat), l[k]? = some r → ∃ a' c', L[k]? = some (.slice a' r.length c') ∧ Rd1In m a' (nats r) S
/-- rows of one's own, each by itself -/
structure PartsOK (m : Mem) (v : Value) (fs : List Value) (l : List (List Nat)) : Prop where
  top : Own m 55 1 v l.length fs
  row : ∀ (k : Nat) (r : List Nat) (f : Value), l[k]? = some r → fs[k]? = some f → Own m 3 1 f r.length (nats r)
  dis : ∀ (k j : Nat) (f g : Value), k ≠ j → fs[k]? = some f → fs[j]? = some g → ∀ x ∈ blkOf f, x ∉ blkOf g
  nv : ∀ (k : Nat) (f : Value), fs[k]? = some f → ∀ x ∈ blkOf f, x ∉ blkOf v
theorem Rd1In.rd {m : Mem} {a : Option Addr} {l : List Value} {S : Nat → Prop} (h : Rd1In m a l S) : Rd1 m a l :=
  h.imp (fun h => h) fun ⟨b, o, e, _, hc⟩ => ⟨b, o, e, hc⟩
theorem RdIn.rd {m : Mem} {v : Value} {l : List (List Nat)} {S : Nat → Prop} (h : RdIn m v l S) : RdRows m v l := by
  obtain ⟨a, c, L, h1, h2, h3, h4⟩ := h
  exact ⟨a, c, L, h1, h2, h3.rd, fun k r hk => let ⟨a', c', h5, h6⟩ := h4 k r hk; ⟨a', c', h5, h6.rd⟩⟩
theorem Rd1In.frame {m m' : Mem} {a : Option Addr} {l : List Value} {S : Nat → Prop} {T : List Nat} (h : Rd1In m a l S) (f : Fr m m' T) (hT : ∀ x ∈ T, ¬ S x) : Rd1In m' a l S :=
  h.imp (fun h => h) fun ⟨b, o, e, hS, hc⟩ => ⟨b, o, e, hS, fun i v hv => f.cellAt (hc i v hv) (fun hb => hT b hb hS)⟩
theorem RdIn.frame {m m' : Mem} {v : Value} {l : List (List Nat)} {S : Nat → Prop} {T : List Nat} (h : RdIn m v l S) (f : Fr m m' T) (hT : ∀ x ∈ T, ¬ S x) : RdIn m' v l S := by
  obtain ⟨a, c, L, h1, h2, h3, h4⟩ := h
  exact ⟨a, c, L, h1, h2, h3.frame f hT, fun k r hk => let ⟨a', c', h5, h6⟩ := h4 k r hk; ⟨a', c', h5, h6.frame f hT⟩⟩
theorem Own.rdIn {m : Mem} {t : TypeId} {n : Nat} {v : Value} {xs : List Value} {S : Nat → Prop} (h : Own m t 1 v n xs) (hS : ∀ b ∈ blkOf v, S b) : ∃ a c, v = .slice a n c ∧ Rd1In m a xs S := by
  obtain ⟨h1, ⟨rfl, rfl⟩ | ⟨b, cap, tail, rfl, hb, hl⟩⟩ := h
  · exact ⟨none, 0, rfl, .inl (List.eq_nil_of_length_eq_zero (by simpa using h1))⟩
  · refine ⟨_, _, rfl, .inr ⟨b, 0, rfl, hS b (by simp [blkOf]), fun i v hv => ?_⟩⟩
    rw [hb, cellAt_cells, List.getElem?_toArray, Nat.zero_add, List.getElem?_append_left]
    · exact hv
    · exact (List.getElem?_eq_some_iff.1 hv).1

theorem cross_len (n : Nat) (part : Nat → Nat) (v : Nat) (l : List Int) : (cross n part v l).length ≤ l.length := List.length_filterMap_le _ _
theorem crossAll_len (n : Nat) (E : Nat → List Int) (part : Nat → Nat) : ∀ k, k ≤ n → (∀ v, v < n → (E v).length ≤ 1048576) → (crossAll n E part k).length ≤ k * 1048576
  | 0, _, _ => by simp [crossAll]
  | k + 1, hk, h => by
    have ih := crossAll_len n E part k (by omega) h
    have h1 := cross_len n part k (E k)
    have h2 := h k (by omega)
    have : crossAll n E part (k + 1) = crossAll n E part k ++ cross n part k (E k) := by simp [crossAll, List.range_succ]
    rw [this, List.length_append]; omega
theorem crossAll_succ (n : Nat) (E : Nat → List Int) (part : Nat → Nat) (k : Nat) : crossAll n E part (k + 1) = crossAll n E part k ++ cross n part k (E k) := by simp [crossAll, List.range_succ]
theorem leftOf_le (C : List (Nat × Nat)) (D : List Nat) (p : Nat) : leftOf C D p ≤ C.length := List.length_filter_le _ _
theorem backOf_le (C : List (Nat × Nat)) (p : Nat) : (backOf C p).length ≤ C.length := by simp only [backOf, List.length_map]; exact List.length_filter_le _ _
theorem cross_no {n : Nat} {part : Nat → Nat} {v : Nat} {l : List Int} {k : Nat} (h : k < l.length) (hno : ¬ (0 ≤ l[k] ∧ l[k] < (n : Int) ∧ part l[k].toNat ≠ part v)) : cross n part v (l.take (k + 1)) = cross n part v (l.take k) := by
  unfold cross
  rw [List.take_succ_eq_append_getElem h, List.filterMap_append]
  simp only [List.filterMap_cons, List.filterMap_nil, if_neg hno, List.append_nil]
theorem cross_yes {n : Nat} {part : Nat → Nat} {v : Nat} {l : List Int} {k : Nat} (h : k < l.length) (hy : 0 ≤ l[k] ∧ l[k] < (n : Int) ∧ part l[k].toNat ≠ part v) : cross n part v (l.take (k + 1)) = cross n part v (l.take k) ++ [(part v, part l[k].toNat)] := by
  unfold cross
  rw [List.take_succ_eq_append_getElem h, List.filterMap_append]
  simp only [List.filterMap_cons, List.filterMap_nil, if_pos hy]

structure LB (m m' : Mem) (N bl bb : Nat) (fb : Nat → Value) (C : List (Nat × Nat)) : Prop where
  hl : m' bl = some (.cells (ri N (fun p => (leftOf C [] p : Int))).toArray 3 (0, 0))
  hr : Rows m' bb N fb (backOf C)
  fr : Fr m m' []
  fresh : ∀ x, InRows bb N fb x → m x = none
  nl : ¬ InRows bb N fb bl

def tof (D : List Nat) (p : Nat) : Int := if p ∈ D then 1 else 0
theorem cnt_full (f : Nat → Int) : ∀ n, n ≤ cnt f n → ∀ p, p < n → f p ≠ 0
  | 0, _, p, hp => by omega
  | n + 1, h, p, hp => by
    have hle := cnt_le f n
    simp only [cnt] at h
    split at h
    · omega
    · rename_i hne
      by_cases e : p = n
      · subst e; exact hne
      · exact cnt_full f n (by omega) p (by omega)
theorem cnt_all (f : Nat → Int) : ∀ n, (∀ p, p < n → f p ≠ 0) → cnt f n = n
  | 0, _ => rfl
  | n + 1, h => by
    simp only [cnt]
    rw [cnt_all f n (fun p hp => h p (by omega)), if_neg (h n (by omega))]
structure LM (m m' : Mem) (n : Nat) (E : Nat → List Int) (part : Nat → Nat) (N bl bb bt : Nat) (fb fN : Nat → Value) (C : List (Nat × Nat)) (D : List Nat) (ov : Value) : Prop where
  hl : m' bl = some (.cells (ri N (fun p => (leftOf C D p : Int))).toArray 3 (0, 0))
  hr : Rows m' bb N fb (backOf C)
  ht : m' bt = some (.cells (ri N (tof D)).toArray 3 (0, 0))
  ho : Own m' 55 1 ov D.length (D.map fN)
  dov : ∀ x ∈ blkOf ov, m x = none ∧ x ≠ bl ∧ x ≠ bt ∧ ¬ InRows bb N fb x
  fr : Fr m m' []
  lt : ∀ p ∈ D, p < N
  clo : DClo n E part D
  cn : D.length = cnt (tof D) N
  pre : ∀ r, Out n E (fun x => x < n ∧ part x ∈ D) r → Out n E (fun _ => False) (D.map (nodesOf n part) ++ r)

def Best (n : Nat) (part : Nat → Nat) (C : List (Nat × Nat)) (D : List Nat) (k : Nat) (best : Int) : Prop :=
  (best = -1 ∧ ∀ p, p < k → ¬ Cand C D p) ∨ ∃ b : Nat, best = b ∧ b < k ∧ Cand C D b ∧ ∀ p, p < k → Cand C D p → hd n part b ≤ hd n part p
theorem Best.skip {n : Nat} {part : Nat → Nat} {C : List (Nat × Nat)} {D : List Nat} {k : Nat} {best : Int} (h : Best n part C D k best) (hk : ¬ Cand C D k) : Best n part C D (k + 1) best := by
  rcases h with ⟨e, h⟩ | ⟨b, e, h1, h2, h3⟩
  · refine .inl ⟨e, fun p hp => ?_⟩
    by_cases e : p = k
    · subst e; exact hk
    · exact h p (by omega)
  · refine .inr ⟨b, e, by omega, h2, fun p hp hc => ?_⟩
    by_cases e : p = k
    · subst e; exact (hk hc).elim
    · exact h3 p (by omega) hc

set_option maxHeartbeats 4000000 in
theorem order_spec (m : Mem) (n : Nat) (ev : Value) (E : Nat → List Int) (part : Nat → Nat) (N bp bN : Nat) (fN : Nat → Value) (hn : n ≤ 512) (hg : GRd m n ev E) (hpt : PT n E part N)
    (hp : m bp = some (.cells (ri n (fun v => (part v : Int))).toArray 3 (0, 0))) (hN : Rows m bN N fN (nodesOf n part))
    (S : Nat → Prop) (hS : ∀ x, m x = none → S x) (hSN : ∀ p, p < N → ∀ x ∈ blkOf (fN p), S x) :
    MC Try.prog 54 [ev, .slice (some ⟨bp, 0, none⟩) n n, .slice (some ⟨bN, 0, none⟩) N N] m fun v m' => ∃ l, Out n E (fun _ => False) l ∧ (RdIn m' v l S ∧ ∃ fs, PartsOK m' v fs l ∧ (∀ f ∈ fs, ∀ x ∈ blkOf f, S x) ∧ ∀ x ∈ blkOf v, S x) ∧ Fr m m' [] := by
  have hNn := hpt.small
  obtain ⟨ea, ec, L, rfl, hL, hLr, hLv⟩ := hg
  refine MC_start Try.func54 graph_order_ok (by kernel_rfl) (by simp [Try.f54]) ?_
  simp (disch := omega) only [go_sem, wrO]
  refine newO_intro fun bl hbl => ?_
  simp (disch := omega) only [go_sem, wrO]
  refine newO_intro fun bb hbb => ?_
  simp (disch := omega) only [go_sem, wrO]
  have hbb0 : m bb = none ∧ bb ≠ bl := by
    by_cases e : bb = bl
    · subst e; simp [Mem.set] at hbb
    · simp [Mem.set, e] at hbb; exact ⟨hbb, e⟩
  refine loopQ_intro (fun g Ev m' => ∃ v fb, v ≤ n ∧ g = n - v ∧ Ev = [(0, .slice ea n ec), (1, .slice (some ⟨bp, 0, none⟩) n n), (2, .slice (some ⟨bN, 0, none⟩) N N), (7, .slice (some ⟨bl, 0, none⟩) N N), (8, .slice (some ⟨bb, 0, none⟩) N N), (25, .slice ea n ec), (26, .int .i64 (n : Nat)), (27, .int .i64 (v : Nat))] ∧
    LB m m' N bl bb fb (crossAll n E part v)) n rfl ⟨0, fun _ => .slice none 0 0, by omega, by omega, rfl, ?_⟩ ?_
  · refine ⟨?_, Rows.new, (Fr.new _ hbl).trans0 (Fr.new _ hbb), ?_, ?_⟩
    · simp (disch := omega) only [go_sem, wrO]; rfl
    · intro x hx; rw [inRows_new hx]; exact hbb0.1
    · intro hx; exact hbb0.2 (inRows_new hx).symm
  rintro g Ev m1 ⟨v, fb, hv, rfl, rfl, hLB⟩
  simp (disch := omega) only [go_sem, wrO]
  refine condB_dec (fun h => ?_) (fun h => ?_)
  · have hvn : v < n := by omega
    obtain ⟨hbig, a', c', hLi, hrow⟩ := hLv v hvn
    have hLi' : v < L.length := by omega
    obtain ⟨be, oe, rfl, hce⟩ := hLr.at hLi'
    rw [List.getElem?_eq_getElem hLi', Option.some.injEq] at hLi
    rw [hLi] at hce
    have hce1 := hLB.fr.cellAt hce (by simp)
    simp (disch := omega) only [go_sem, wrO, hce1]
    refine loopQ_intro (fun g Ev m' => ∃ k fb, k ≤ (E v).length ∧ g = (E v).length - k ∧ Ev = [(0, .slice (some ⟨be, oe, none⟩) n ec), (1, .slice (some ⟨bp, 0, none⟩) n n), (2, .slice (some ⟨bN, 0, none⟩) N N), (7, .slice (some ⟨bl, 0, none⟩) N N), (8, .slice (some ⟨bb, 0, none⟩) N N), (9, .int .i64 (v : Nat)), (25, .slice (some ⟨be, oe, none⟩) n ec), (26, .int .i64 (n : Nat)), (27, .int .i64 (v : Nat)), (32, .slice a' (E v).length c'), (33, .int .i64 ((E v).length : Nat)), (34, .int .i64 (k : Nat))] ∧
      LB m m' N bl bb fb (crossAll n E part v ++ cross n part v ((E v).take k))) (E v).length rfl ⟨0, fb, by omega, by omega, rfl, ?_⟩ ?_
    · rw [List.take_zero]; simpa [cross] using hLB
    clear hLB fb m1 hce1
    rintro g Ev m1 ⟨k, fb, hk, rfl, rfl, hLB⟩
    simp (disch := omega) only [go_sem, wrO]
    refine condB_dec (fun h => ?_) (fun h => ?_)
    · have hkl : k < (E v).length := by omega
      obtain ⟨bx, ox, rfl, hcx⟩ := hrow.at (i := k) (by simpa [ints] using hkl)
      simp only [ints, List.getElem_map] at hcx
      obtain ⟨to, hto⟩ : ∃ to, (E v)[k] = to := ⟨_, rfl⟩
      rw [hto] at hcx
      have hcx1 := hLB.fr.cellAt hcx (by simp)
      have hp1 := hLB.fr.get0 hp
      have hno := cross_no (n := n) (part := part) (v := v) hkl
      have hyes := cross_yes (n := n) (part := part) (v := v) hkl
      rw [hto] at hno hyes
      simp (disch := omega) only [go_sem, wrO, hcx1]
      by_cases hneg : to < 0
      · have e1 := decide_eq_false (show ¬ (0 ≤ to) by omega)
        simp (disch := omega) only [go_sem, wrO, e1]
        exact handN_intro ((E v).length - (k + 1)) (by omega) ⟨k + 1, fb, by omega, rfl, rfl, by rw [hno (by omega)]; exact hLB⟩
      have e1 := decide_eq_true (show 0 ≤ to by omega)
      by_cases hbigg : (n : Int) ≤ to
      · have e2 := decide_eq_false (show ¬ (to < n) by omega)
        simp (disch := omega) only [go_sem, wrO, e1, e2]
        exact handN_intro ((E v).length - (k + 1)) (by omega) ⟨k + 1, fb, by omega, rfl, rfl, by rw [hno (by omega)]; exact hLB⟩
      have e2 := decide_eq_true (show to < n by omega)
      obtain ⟨z, rfl⟩ : ∃ z : Nat, to = z := ⟨to.toNat, by omega⟩
      simp only [Int.toNat_natCast] at hno hyes
      have hzn : z < n := by omega
      simp (disch := omega) only [go_sem, wrO, e1, e2, hp1]
      obtain ⟨hl1, hr1, fr1, fresh1, nl1⟩ := hLB
      have hpv := hpt.lt v hvn
      have hpz := hpt.lt z hzn
      have hClen : (crossAll n E part v ++ cross n part v ((E v).take k)).length ≤ 537919488 := by
        have h1 := crossAll_len n E part v hv (fun v hv => (hLv v hv).1)
        have h2 := cross_len n part v ((E v).take k)
        rw [List.length_take] at h2
        rw [List.length_append]
        have : v * 1048576 ≤ 512 * 1048576 := Nat.mul_le_mul_right _ (by omega)
        omega
      refine condB_dec (fun hne => ?_) (fun hne => ?_)
      rotate_left
      · have hlb := leftOf_le (crossAll n E part v ++ cross n part v ((E v).take k)) [] (part v)
        have hbk := backOf_le (crossAll n E part v ++ cross n part v ((E v).take k)) (part z)
        have hy := hyes ⟨by omega, by omega, by omega⟩
        have hbpl : bp ≠ bl := fun e => by rw [e, hbl] at hp; cases hp
        have hrb1 := hr1.hb
        simp (disch := omega) only [go_sem, wrO, hp1, hl1, hrb1]
        generalize hm2 : Mem.set m1 bl _ = m2
        have f2 : Fr m1 m2 [bl] := by rw [← hm2]; exact Fr.set (by simp)
        have hl2 := (congrFun hm2 bl).symm
        simp (disch := omega) only [go_sem, wrO] at hl2
        have hp2 := f2.get hp1 (by simpa using hbpl)
        have hr2 := hr1.frame f2 (fun x hx => by simp only [List.mem_singleton] at hx; subst hx; exact nl1)
        have hrb := hr2.hb
        refine newO_intro fun bn hbn => ?_
        have f3 : Fr m2 (m2.set bn (.cells [Value.int .i64 (part v : Nat)].toArray 3)) [] := Fr.new _ hbn
        have hp3 := f3.get0 hp2
        have hrb3 := f3.get0 hrb
        simp (disch := omega) only [go_sem, wrO, hp3, hrb3]
        refine app_own (n := (backOf (crossAll n E part v ++ cross n part v ((E v).take k)) (part z)).length) (k := 1) (c := 1) (news := [.int .i64 (part v : Nat)]) ((hr2.own (part z) hpz).frame0 f3) rfl ?_ rfl (by simp [Value.oneCell']) rfl (by omega) (by omega) ?_
        · exact ldS_cell (l := [.int .i64 (part v : Nat)]) (set_self _ _) (by simp)
        intro w5 m5 own5 f5 hblk
        obtain ⟨hr6, hrb5, f6, hin⟩ := hr2.step hpz f3 own5 f5 hblk
        have hpn : bp ∉ blkOf (fb (part z)) := fun hx => by
          have := fresh1 bp (.inr ⟨part z, hpz, hx⟩); rw [hp] at this; cases this
        have hp5 := f5.get hp3 hpn
        obtain ⟨wa, wc, rfl⟩ := own5.form
        simp (disch := omega) only [go_sem, wrO, hp5, hrb5]
        have hm2n : ∀ x, m2 x = none → m x = none := fun x hx => by
          cases h' : m x with
          | none => rfl
          | some o =>
            have h1 := fr1.get0 h'
            by_cases e : x = bl
            · subst e; rw [hl2] at hx; cases hx
            · rw [f2.get h1 (by simpa using e)] at hx; cases hx
        have hm3n : ∀ x, (m2.set bn (.cells [Value.int .i64 (part v : Nat)].toArray 3)) x = none → m2 x = none := fun x hx => by
          cases h' : m2 x with
          | none => rfl
          | some o => rw [f3.get0 h'] at hx; cases hx
        have hnl2 : bl ∉ bb :: blkOf (fb (part z)) := fun hx => by
          rcases List.mem_cons.1 hx with e | e
          · exact nl1 (.inl e)
          · exact nl1 (.inr ⟨part z, hpz, e⟩)
        refine handN_intro ((E v).length - (k + 1)) (by omega) ⟨k + 1, _, by omega, rfl, rfl, ?_, by rw [hy, ← List.append_assoc, backOf_add]; exact hr6, ?_, fun x hx => ?_, fun hx => ?_⟩
        · rw [hy, ← List.append_assoc, leftOf_add]
          have h7 := f6.get (f3.get0 hl2) hnl2
          refine h7.trans ?_
          congr 3
          apply List.map_congr_left
          intro p _
          by_cases e : p = part v
          · subst e; rw [Up_self]; simp only [Up_self]; simp
          · rw [Up_ne _ e]; simp only [Up_ne _ e]
        · exact ((fr1.trans f2 (fun x hx hne => by simp only [List.mem_singleton] at hx; subst hx; exact (hne hbl).elim)).trans0 f3).trans f6 (fun x hx hne => by
            rcases List.mem_cons.1 hx with e | e
            · exact (hne (fresh1 x (.inl e))).elim
            · exact (hne (fresh1 x (.inr ⟨part z, hpz, e⟩))).elim)
        · rcases hin x hx with h | h
          · exact fresh1 x h
          · exact hm2n x (hm3n x h)
        · rcases hin bl hx with h | h
          · exact nl1 h
          · rw [f3.get0 hl2] at h; cases h
      · simp (disch := omega) only [go_sem, wrO]
        exact handN_intro ((E v).length - (k + 1)) (by omega) ⟨k + 1, fb, by omega, rfl, rfl, by rw [hno (by omega)]; exact ⟨hl1, hr1, fr1, fresh1, nl1⟩⟩
    · have hke : k = (E v).length := by omega
      subst hke
      rw [List.take_length, ← crossAll_succ] at hLB
      simp (disch := omega) only [go_sem, wrO]
      exact handN_intro (n - (v + 1)) (by omega) ⟨v + 1, fb, by omega, rfl, rfl, hLB⟩
  · have hve : n = v := by omega
    subst hve
    simp (disch := omega) only [go_sem, wrO]
    refine newO_intro fun bt hbt => ?_
    simp (disch := omega) only [go_sem, wrO]
    obtain ⟨C, hC⟩ : ∃ C, C = crossAll n E part n := ⟨_, rfl⟩
    have hClen : C.length ≤ 537919488 := by
      have h1 := crossAll_len n E part n (Nat.le_refl _) (fun v hv => (hLv v hv).1)
      rw [← hC] at h1
      have : n * 1048576 ≤ 512 * 1048576 := Nat.mul_le_mul_right _ (by omega)
      omega
    rw [← hC] at hLB
    obtain ⟨hl1, hr1, fr1, fresh1, nl1⟩ := hLB
    have hbtl : bt ≠ bl := fun e => by rw [e, hl1] at hbt; cases hbt
    have hbtr : ¬ InRows bb N fb bt := fun hx => hr1.there hx hbt
    have hbt0 : m bt = none := by
      cases h' : m bt with
      | none => rfl
      | some o => rw [fr1.get0 h'] at hbt; cases hbt
    refine loopQ_intro (fun g Ev m' => ∃ D ov, g = N - D.length ∧ Ev = [(2, .slice (some ⟨bN, 0, none⟩) N N), (7, .slice (some ⟨bl, 0, none⟩) N N), (8, .slice (some ⟨bb, 0, none⟩) N N), (13, .slice (some ⟨bt, 0, none⟩) N N), (14, ov)] ∧
      LM m m' n E part N bl bb bt fb fN C D ov) N rfl ⟨[], .slice none 0 0, by simp, rfl, ?_⟩ ?_
    · have hf : Fr m1 (m1.set bt (.cells (ri N fun _ => 0).toArray 3)) [] := Fr.new _ hbt
      refine ⟨hf.get0 hl1, hr1.frame0 hf, ?_, Own.nil _ _ _, by simp [blkOf], fr1.trans0 hf, by simp, by intro u v _ h; simp at h, ?_, ?_⟩
      · have e : tof [] = fun _ => (0 : Int) := by funext x; simp [tof]
        rw [e]; simp [Mem.set]
      · have : ∀ n, cnt (tof []) n = 0 := by intro n; induction n <;> simp_all [cnt, tof]
        simp [this]
      · intro r hr
        have : (fun x => x < n ∧ part x ∈ ([] : List Nat)) = fun _ => False := by funext x; simp
        rw [this] at hr; simpa using hr
    clear hl1 hr1 fr1 hbt h m1
    rintro g Ev m1 ⟨D, ov, rfl, rfl, ⟨hl1, hr1, ht1, ho1, dov, fr1, Dlt, hclo, hcnt, hpre⟩⟩
    obtain ⟨oa, oc, rfl⟩ := ho1.form
    simp (disch := omega) only [go_sem, wrO]
    refine condB_dec (fun h => ?_) (fun h => ?_)
    · have hNb := fr1.get0 hN.hb
      have hrb := hr1.hb
      obtain ⟨t, ht⟩ : ∃ t, t = tof D := ⟨_, rfl⟩
      rw [← ht] at ht1
      simp (disch := omega) only [go_sem, wrO]
      refine loopQ_intro (fun g Ev m' => ∃ k best, k ≤ N ∧ g = N - k ∧ Ev = [(2, .slice (some ⟨bN, 0, none⟩) N N), (7, .slice (some ⟨bl, 0, none⟩) N N), (8, .slice (some ⟨bb, 0, none⟩) N N), (13, .slice (some ⟨bt, 0, none⟩) N N), (14, .slice oa D.length oc), (15, .int .i64 best), (96, .int .i64 (N : Nat)), (97, .int .i64 (k : Nat))] ∧
        m' = m1 ∧ Best n part C D k best) N rfl ⟨0, -1, by omega, rfl, rfl, rfl, .inl ⟨rfl, by omega⟩⟩ ?_
      rintro g Ev m' ⟨k, best, hk, rfl, rfl, rfl, hbest⟩
      simp (disch := omega) only [go_sem, wrO]
      refine condB_dec (fun h2 => ?_) (fun h2 => ?_)
      · have hkN : k < N := by omega
        obtain ⟨b1, cap1, tail1, e1, hb1, -, -⟩ := (hN.own k hkN).row (by have := nodesOf_ne hpt hkN; exact List.length_pos_iff.2 this)
        have hb1' := fr1.get0 hb1
        have hx1 : (nats (nodesOf n part k) ++ tail1)[0]? = some (.int .i64 (hd n part k : Nat)) := by
          have := nodesOf_ne hpt hkN
          unfold hd nats
          cases hl : nodesOf n part k with
          | nil => exact absurd hl this
          | cons x r => rfl
        have hne0 : 0 < (nodesOf n part k).length := by have := nodesOf_ne hpt hkN; exact List.length_pos_iff.2 this
        simp (disch := omega) only [go_sem, wrO, ht1]
        by_cases hkD : k ∈ D
        · have e2 : decide (t k = 0) = false := by rw [ht]; simp [tof, hkD]
          simp (disch := omega) only [go_sem, wrO, e2, undef]
          exact handN_intro (N - (k + 1)) (by omega) ⟨k + 1, best, by omega, rfl, rfl, rfl, hbest.skip (fun hc => hc.1 hkD)⟩
        have e2 : decide (t k = 0) = true := by rw [ht]; simp [tof, hkD]
        simp (disch := omega) only [go_sem, wrO, e2, hl1]
        by_cases hlk : leftOf C D k = 0
        · have e3 : decide ((leftOf C D k : Int) = 0) = true := by rw [hlk]; rfl
          have hcand : Cand C D k := ⟨hkD, hlk⟩
          rcases hbest with ⟨rfl, hno⟩ | ⟨b, rfl, hbk, hcb, hmin⟩
          · have e5 : decide ((-1 : Int) < 0) = true := rfl
            simp (disch := omega) only [go_sem, wrO, e3, e5]
            exact handN_intro (N - (k + 1)) (by omega) ⟨k + 1, (k : Nat), by omega, rfl, rfl, rfl, .inr ⟨k, rfl, by omega, hcand, fun p hp hc => by
                by_cases e : p = k
                · subst e; exact Nat.le_refl _
                · exact (hno p (by omega) hc).elim⟩⟩
          · have hbN : b < N := by omega
            obtain ⟨b2, cap2, tail2, e4, hb2, -, -⟩ := (hN.own b hbN).row (by have := nodesOf_ne hpt hbN; exact List.length_pos_iff.2 this)
            have hb2' := fr1.get0 hb2
            have hx2 : (nats (nodesOf n part b) ++ tail2)[0]? = some (.int .i64 (hd n part b : Nat)) := by
              have := nodesOf_ne hpt hbN
              unfold hd nats
              cases hl : nodesOf n part b with
              | nil => exact absurd hl this
              | cons x r => rfl
            have hne2 : 0 < (nodesOf n part b).length := by have := nodesOf_ne hpt hbN; exact List.length_pos_iff.2 this
            have e5 : decide ((b : Int) < 0) = false := decide_eq_false (by omega)
            simp (disch := omega) only [go_sem, wrO, e3, e5, hNb, e1, e4, hb1', hb2', hx1, hx2]
            refine condB_dec (fun h3 => ?_) (fun h3 => ?_)
            · simp (disch := omega) only [go_sem, wrO]
              exact handN_intro (N - (k + 1)) (by omega) ⟨k + 1, (k : Nat), by omega, rfl, rfl, rfl, .inr ⟨k, rfl, by omega, hcand, fun p hp hc => by
                by_cases e : p = k
                · subst e; exact Nat.le_refl _
                · have := hmin p (by omega) hc; omega⟩⟩
            · simp (disch := omega) only [go_sem, wrO]
              exact handN_intro (N - (k + 1)) (by omega) ⟨k + 1, (b : Nat), by omega, rfl, rfl, rfl, .inr ⟨b, rfl, by omega, hcb, fun p hp hc => by
                by_cases e : p = k
                · subst e; omega
                · exact hmin p (by omega) hc⟩⟩
        · have e3 : decide ((leftOf C D k : Int) = 0) = false := decide_eq_false (by omega)
          simp (disch := omega) only [go_sem, wrO, e3, undef]
          exact handN_intro (N - (k + 1)) (by omega) ⟨k + 1, best, by omega, rfl, rfl, rfl, hbest.skip (fun hc => hlk hc.2)⟩
      · have hkN : N = k := by omega
        subst hkN
        have hex : ∃ p, p < N ∧ p ∉ D := Classical.byContradiction fun hn => by
          have : cnt (tof D) N = N := cnt_all _ _ (fun p hp => by
            unfold tof
            rw [if_pos (Classical.byContradiction fun h' => hn ⟨p, hp, h'⟩)]; decide)
          omega
        obtain ⟨p0, hp0, hc0⟩ := cand_there hpt hex
        rw [← hC] at hc0
        rcases hbest with ⟨_, hno⟩ | ⟨b, rfl, hbN, hcb, hmin⟩
        · exact (hno p0 hp0 hc0).elim
        have hNbn : bN ≠ bt := fun e => by have := hN.hb; rw [e, hbt0] at this; cases this
        simp (disch := omega) only [go_sem, wrO, ht1, hNb]
        obtain ⟨fa, fc, efN⟩ := (hN.own b hbN).form
        generalize hm2 : Mem.set m' bt _ = m2
        have f2 : Fr m' m2 [bt] := by rw [← hm2]; exact Fr.set (by simp)
        have ht2 := (congrFun hm2 bt).symm
        simp (disch := omega) only [go_sem, wrO] at ht2
        have hl2 := f2.get hl1 (by simp; omega)
        have hr2 := hr1.frame f2 (fun x hx => by simp only [List.mem_singleton] at hx; subst hx; exact hbtr)
        have ho2 := ho1.frame f2 (fun x hx => by have := (dov x hx).2.2.1; simpa using this)
        have hNb2 := f2.get hNb (by simpa using hNbn)
        clear hm2
        simp (disch := omega) only [go_sem, wrO, efN]
        refine newO_intro fun bn hbn => ?_
        have f3 : Fr m2 (m2.set bn (.cells [Value.slice fa (nodesOf n part b).length fc].toArray 55)) [] := Fr.new _ hbn
        simp (disch := omega) only [go_sem, wrO]
        have hDlen : D.length < N := by omega
        refine app_own (n := D.length) (k := 1) (c := 1) (news := [.slice fa (nodesOf n part b).length fc]) (ho2.frame0 f3) rfl ?_ rfl (by simp [Value.oneCell']) rfl (by omega) (by omega) ?_
        · exact ldS_cell (l := [.slice fa (nodesOf n part b).length fc]) (set_self _ _) (by simp)
        intro w5 m5 own5 f5 hblk
        have fr2 : Fr m m2 [] := fr1.trans f2 (fun x hx hne => by simp only [List.mem_singleton] at hx; subst hx; exact (hne hbt0).elim)
        have dov' : ∀ x ∈ blkOf (Value.slice oa D.length oc), x ≠ bl ∧ x ≠ bt ∧ ¬ InRows bb N fb x := fun x hx => (dov x hx).2
        have hl5 := f5.get (f3.get0 hl2) (fun hx => (dov' _ hx).1 rfl)
        have ht5 := f5.get (f3.get0 ht2) (fun hx => (dov' _ hx).2.1 rfl)
        have hr5 := (hr2.frame0 f3).frame f5 (fun x hx => (dov' x hx).2.2)
        have fr5 : Fr m m5 [] := (fr2.trans0 f3).trans f5 (fun x hx hne => (hne (dov x hx).1).elim)
        have hrb5 := hr5.hb
        have hm3n : ∀ x, (m2.set bn (.cells [Value.slice fa (nodesOf n part b).length fc].toArray 55)) x = none → m2 x = none := fun x hx => by
          cases h' : m2 x with
          | none => rfl
          | some o => rw [f3.get0 h'] at hx; cases hx
        have dov5 : ∀ x ∈ blkOf w5, m x = none ∧ x ≠ bl ∧ x ≠ bt ∧ ¬ InRows bb N fb x := fun x hx => by
          rcases hblk x hx with h' | h'
          · exact dov x h'
          · have h2 := hm3n x h'
            refine ⟨?_, fun e => ?_, fun e => ?_, fun hi => ?_⟩
            · cases h6 : m x with
              | none => rfl
              | some o => rw [fr2.get0 h6] at h2; cases h2
            · rw [e, hl2] at h2; cases h2
            · rw [e, ht2] at h2; cases h2
            · exact hr2.there hi h2
        obtain ⟨ba, bc, efb⟩ := (hr5.own b hbN).form
        obtain ⟨wa, wc, rfl⟩ := own5.form
        simp (disch := omega) only [go_sem, wrO, hrb5, efb]
        refine loopQ_intro (fun g Ev m' => ∃ k, k ≤ (backOf C b).length ∧ g = (backOf C b).length - k ∧ Ev = [(2, .slice (some ⟨bN, 0, none⟩) N N), (7, .slice (some ⟨bl, 0, none⟩) N N), (8, .slice (some ⟨bb, 0, none⟩) N N), (13, .slice (some ⟨bt, 0, none⟩) N N), (14, .slice wa (D.length + 1) wc), (146, .slice ba (backOf C b).length bc), (147, .int .i64 ((backOf C b).length : Nat)), (148, .int .i64 (k : Nat))] ∧
          m' bl = some (.cells (ri N (fun p => (leftOf C D p : Int) - ((((backOf C b).take k).filter (· == p)).length : Int))).toArray 3 (0, 0)) ∧ ∀ x, x ≠ bl → m' x = m5 x) (backOf C b).length rfl ⟨0, by omega, by omega, rfl, ?_, fun _ _ => rfl⟩ ?_
        · simpa using hl5
        rintro g Ev m6 ⟨k, hk, rfl, rfl, hl6, hx6⟩
        simp (disch := omega) only [go_sem, wrO]
        refine condB_dec (fun h3 => ?_) (fun h3 => ?_)
        · have hkl : k < (backOf C b).length := by omega
          have ownb := hr5.own b hbN
          rw [efb] at ownb
          obtain ⟨bx, cx, tx, ex, hbx, -, -⟩ := ownb.row (by omega)
          cases ex
          have hnb : bx ≠ bl := fun e => nl1 (.inr ⟨b, hbN, by rw [efb, e]; simp [blkOf]⟩)
          have hbx6 : m6 bx = _ := (hx6 bx hnb).trans hbx
          obtain ⟨q, hq⟩ : ∃ q, (backOf C b)[k] = q := ⟨_, rfl⟩
          have hqx : (nats (backOf C b) ++ tx)[k]? = some (.int .i64 (q : Nat)) := by
            rw [List.getElem?_append_left (by simpa [nats] using hkl)]
            simp [nats, List.getElem?_eq_getElem hkl, hq]
          have hqN : q < N := by
            have : q ∈ backOf C b := hq ▸ List.getElem_mem _
            simp only [backOf, List.mem_map, List.mem_filter] at this
            obtain ⟨c, ⟨hcm, _⟩, rfl⟩ := this
            rw [hC] at hcm
            obtain ⟨u, v, ha, _, rfl⟩ := mem_crossAll.1 hcm
            exact hpt.lt u ha.1
          have hb1 := leftOf_le C D q
          have hb3 := backOf_le C b
          have hb2 : (((backOf C b).take k).filter (· == q)).length ≤ C.length := by
            have h1 := List.length_filter_le (· == q) ((backOf C b).take k)
            rw [List.length_take] at h1
            have h2 := backOf_le C b
            omega
          simp (disch := omega) only [go_sem, wrO, hbx6, hqx, hl6]
          refine handN_intro ((backOf C b).length - (k + 1)) (by omega) ⟨k + 1, by omega, rfl, rfl, ?_, fun x hx => by rw [set_ne _ _ _ hx]; exact hx6 x hx⟩
          simp only [set_self]
          congr 3
          apply List.map_congr_left
          intro p _
          rw [List.take_succ_eq_append_getElem hkl, hq]
          simp only [List.filter_append]
          by_cases e : p = q
          · subst e; rw [Up_self]; simp; omega
          · rw [Up_ne _ e]
            have : (q == p) = false := by simpa using fun h => e h.symm
            simp [this]
        · have hke : k = (backOf C b).length := by omega
          subst hke
          simp (disch := omega) only [go_sem, wrO]
          have f6 : Fr m5 m6 [bl] := fun x _ hx => hx6 x (by simpa using hx)
          have hnl : ∀ x, (x = bl ∨ x = bt) → ¬ InRows bb N fb x := fun x hx => by rcases hx with rfl | rfl <;> assumption
          refine handN_intro (N - (D.length + 1)) (by omega) ⟨D ++ [b], .slice wa (D.length + 1) wc, by simp, rfl, ⟨?_, hr5.frame f6 (fun x hx => by simp only [List.mem_singleton] at hx; subst hx; exact nl1), ?_, ?_, dov5, ?_, ?_, ?_, ?_, ?_⟩⟩
          · rw [hl6]
            congr 3
            apply List.map_congr_left
            intro p _
            rw [List.take_length]
            have := leftOf_told C D b hcb.1 p
            have e : ((leftOf C D p : Int) - (((backOf C b).filter (· == p)).length : Int)) = (leftOf C (D ++ [b]) p : Int) := by omega
            exact congrArg (Value.int .i64) e
          · rw [f6.get ht5 (by simpa using hbtl)]
            congr 3
            apply List.map_congr_left
            intro p _
            rw [ht]
            by_cases e : p = b
            · subst e; rw [Up_self]; simp [tof]
            · rw [Up_ne _ e]; simp [tof, e]
          · have := own5.frame f6 (fun x hx => by simpa using (dov5 x hx).2.1)
            simpa [efN] using this
          · exact fr5.trans f6 (fun x hx hne => by simp only [List.mem_singleton] at hx; subst hx; exact (hne hbl).elim)
          · intro p hp
            rcases List.mem_append.1 hp with h' | h'
            · exact Dlt p h'
            · simp only [List.mem_singleton] at h'; subst h'; exact hbN
          · exact clo_step hclo (hC ▸ hcb)
          · have e : tof (D ++ [b]) = Up (tof D) b 1 := by
              funext p
              by_cases e : p = b
              · subst e; rw [Up_self]; simp [tof]
              · rw [Up_ne _ e]; simp [tof, e]
            have hz : tof D b = 0 := by simp [tof, hcb.1]
            rw [e, cnt_up _ _ _ hz (by decide), if_pos hbN]
            simp; omega
          · intro r hr
            have := hpre _ (out_step hpt hclo hbN (hC ▸ hcb) (fun p hp hc => hmin p hp (hC ▸ hc)) hr)
            simpa using this
    · simp (disch := omega) only [go_sem, wrO]
      have hall : ∀ p, p < N → p ∈ D := fun p hp => by
        have hle := cnt_le (tof D) N
        have := cnt_full (tof D) N (by omega) p hp
        unfold tof at this
        exact Classical.byContradiction fun hn => this (if_neg hn)
      have hout : Out n E (fun _ => False) (D.map (nodesOf n part)) := by
        have := hpre [] (out_end hpt hall)
        simpa using this
      have hDd : ∀ (k j : Nat) (p q : Nat), k ≠ j → D[k]? = some p → D[j]? = some q → p ≠ q := by
        intro k j p q hkj hk hj e
        subst e
        have hkl := (List.getElem?_eq_some_iff.1 hk).1
        have hjl := (List.getElem?_eq_some_iff.1 hj).1
        have ek := (List.getElem?_eq_some_iff.1 hk).2
        have ej := (List.getElem?_eq_some_iff.1 hj).2
        have hne := nodesOf_ne hpt (Dlt p (List.mem_of_getElem? hk))
        obtain ⟨x, hx⟩ := List.exists_mem_of_ne_nil _ hne
        have h1 : x ∈ (D.map (nodesOf n part))[k]'(by simpa using hkl) := by rw [List.getElem_map, ek]; exact hx
        have h2 : x ∈ (D.map (nodesOf n part))[j]'(by simpa using hjl) := by rw [List.getElem_map, ej]; exact hx
        rcases Nat.lt_or_gt_of_ne hkj with h | h
        · exact hout.ans0.dis k j (by simpa using hkl) (by simpa using hjl) h x h1 h2
        · exact hout.ans0.dis j k (by simpa using hjl) (by simpa using hkl) h x h2 h1
      have mapf : ∀ (k : Nat) (f : Value), (D.map fN)[k]? = some f → ∃ p, D[k]? = some p ∧ f = fN p := by
        intro k f h
        rw [List.getElem?_map, Option.map_eq_some_iff] at h
        obtain ⟨p, hp, e⟩ := h
        exact ⟨p, hp, e.symm⟩
      refine post_intro ⟨D.map (nodesOf n part), hout, ⟨?_, D.map fN, ⟨by simpa using ho1, ?_, ?_, ?_⟩, ?_, fun x hx => hS x (dov x hx).1⟩, fr1⟩
      rotate_left
      · intro k r f hr hf
        obtain ⟨p, hp, rfl⟩ := mapf k f hf
        rw [List.getElem?_map, hp] at hr
        simp only [Option.map_some, Option.some.injEq] at hr
        subst hr
        exact (hN.own p (Dlt p (List.mem_of_getElem? hp))).frame0 fr1
      · intro k j f g hkj hf hg
        obtain ⟨p, hp, rfl⟩ := mapf k f hf
        obtain ⟨q, hq, rfl⟩ := mapf j g hg
        exact hN.dis p q (Dlt p (List.mem_of_getElem? hp)) (Dlt q (List.mem_of_getElem? hq)) (hDd k j p q hkj hp hq)
      · intro k f hf x hx hv
        obtain ⟨p, hp, rfl⟩ := mapf k f hf
        exact (hN.own p (Dlt p (List.mem_of_getElem? hp))).there x hx (dov x hv).1
      · intro f hf x hx
        obtain ⟨p, hp, rfl⟩ := List.mem_map.1 hf
        exact hSN p (Dlt p hp) x hx
      · obtain ⟨a', c', e, hrd⟩ := ho1.rdIn (S := S) (fun x hx => hS x (dov x hx).1)
        cases e
        refine ⟨_, oc, D.map fN, by simp, by simp, hrd, fun k r hk => ?_⟩
        rw [List.getElem?_map] at hk ⊢
        cases hDk : D[k]? with
        | none => rw [hDk] at hk; cases hk
        | some p =>
          rw [hDk] at hk
          simp only [Option.map_some, Option.some.injEq] at hk ⊢
          subst hk
          have hpN := Dlt p (List.mem_of_getElem? hDk)
          exact ((hN.own p hpN).frame0 fr1).rdIn (hSN p hpN)
end Go.Fw

namespace Go.Fw
open Go.Proofs

theorem parts_long (m : Mem) (a : Option Addr) (n c : Nat) (h : 512 < n) :
    MC Try.prog 45 [.slice a n c] m fun v m' => v = .tuple #[.slice none 0 0, .int .i64 2] ∧ m' = m := by
  refine MC_start Try.func45 graph_Parts_ok (by kernel_rfl) (by simp [Try.f45]) ?_
  simp (disch := omega) only [go_sem, wrO]
  exact post_intro ⟨rfl, rfl⟩

theorem nodesTo_succ (part : Nat → Nat) (v : Nat) : (fun p => (List.range (v + 1)).filter fun u => part u == p) = Up (fun p => (List.range v).filter fun u => part u == p) (part v) (((List.range v).filter fun u => part u == part v) ++ [v]) := by
  funext p
  rw [List.range_succ, List.filter_append]
  by_cases e : p = part v
  · subst e; rw [Up_self]; simp
  · rw [Up_ne _ e]
    have : (part v == p) = false := by simpa using fun h => e h.symm
    simp [this]

set_option maxHeartbeats 4000000 in
theorem parts_spec (m : Mem) (n : Nat) (ev : Value) (E : Nat → List Int) (hn : n ≤ 512) (hg : GRd m n ev E) :
    MC Try.prog 45 [ev] m fun v m' => ∃ w l, v = .tuple #[w, .int .i64 0] ∧ Out n E (fun _ => False) l ∧ (RdIn m' w l (fun x => m x = none) ∧ ∃ fs, PartsOK m' w fs l ∧ (∀ f ∈ fs, ∀ x ∈ blkOf f, m x = none) ∧ ∀ x ∈ blkOf w, m x = none) ∧ Fr m m' [] := by
  have hg0 := hg
  obtain ⟨ea, ec, L, rfl, hL, hLr, hLv⟩ := hg
  refine MC_start Try.func45 graph_Parts_ok (by kernel_rfl) (by simp [Try.f45]) ?_
  show wpN Try.prog (.seq graph_Parts_r0 (.seq graph_Parts_r1 (.seq (.seq graph_Parts_r2 (.cond (.slot 13) (.seq graph_Parts_r3 .ret) .skip)) (.seq graph_Parts_r4 (.seq (.seq graph_Parts_r5 (.block 0 (.loop [0, 5, 25, 26] graph_Parts_l0))) (.seq graph_Parts_r11 (.seq (.seq graph_Parts_r12 (.block 2 (.loop [0, 5, 7, 49, 50, 51] graph_Parts_l1))) (.seq graph_Parts_r17 .ret)))))))) _ _ _
  generalize hR4 : graph_Parts_r4 = R4
  simp (disch := omega) only [go_sem, wrO]
  rw [← hR4]
  refine parts_r4_ok m n ea ec hn _ _ ?_
  clear hR4 R4
  rintro B m1 ⟨w1, fresh1, fr1⟩
  simp (disch := omega) only [go_sem, wrO]
  refine loopQ_intro (fun g Ev m' => ∃ v r0 s, v ≤ n ∧ g = n - v ∧ Ev = [(0, .slice ea n ec), (5, .pointer (some ⟨B.w, 0, none⟩)), (25, .int .i64 (n : Nat)), (26, .int .i64 (v : Nat))] ∧
    WRep m' n (.slice ea n ec) B r0 s ∧ J n E s [] ∧ (∀ b ∈ B.all r0, m b = none) ∧ Fr m m' [] ∧ ∀ u, u < v → s.idx u ≠ 0) n rfl ⟨0, _, _, by omega, by omega, rfl, w1, J.start n E _ _, fresh1, fr1, by omega⟩ ?_
  clear w1 fresh1 fr1 m1
  rintro g Ev m1 ⟨v, rw0, s, hv, rfl, rfl, w1, j1, fresh1, fr1, hvis⟩
  have hw1 := w1.hw
  have hi1 := w1.hi
  simp (disch := omega) only [go_sem, wrO]
  refine condB_dec (fun h => ?_) (fun h => ?_)
  · have hvn : v < n := by omega
    simp (disch := omega) only [go_sem, wrO, hw1, hi1]
    refine condB_dec (fun h0 => ?_) (fun h0 => ?_)
    · simp (disch := omega) only [go_sem, wrO]
      refine call_with (from_spec m m1 n _ E B rw0 s v hn hg0 w1 j1 fresh1 fr1 hvn h0) ?_
      rintro r m2 ⟨rfl, rv2, s2, w2, j2, fresh2, fr2, hv2, hm2⟩
      simp (disch := omega) only [go_sem, wrO]
      exact handN_intro (n - (v + 1)) (by omega) ⟨v + 1, rv2, s2, by omega, rfl, rfl, w2, j2, fresh2, fr2, fun u hu => by
        by_cases e : u = v
        · subst e; exact hv2
        · exact hm2 u (hvis u (by omega))⟩
    · simp (disch := omega) only [go_sem, wrO]
      exact handN_intro (n - (v + 1)) (by omega) ⟨v + 1, rw0, s, by omega, rfl, rfl, w1, j1, fresh1, fr1, fun u hu => by
        by_cases e : u = v
        · subst e; exact h0
        · exact hvis u (by omega)⟩
  · have hve : n = v := by omega
    subst hve
    obtain ⟨hpt, hri, hpart⟩ := j1.parts hvis
    have hp1 := w1.hp
    rw [hri] at hp1
    obtain ⟨part, hpd⟩ : ∃ part : Nat → Nat, part = fun v => (s.part v).toNat := ⟨_, rfl⟩
    have hp1 : m1 B.p = some (.cells (ri n (fun v => (part v : Int))).toArray 3 (0, 0)) := by rw [hpd]; exact hp1
    rw [← hpd] at hpt
    obtain ⟨N, hN⟩ : ∃ N, N = s.many := ⟨_, rfl⟩
    rw [← hN] at hw1 hpt
    have hNn := hpt.small
    have hpw : B.p ≠ B.w := fun e => w1.d.2.2.2.1 e.symm
    have mw : m B.w = none := fresh1 _ (by simp [WB.all])
    have mp : m B.p = none := fresh1 _ (by simp [WB.all])
    simp (disch := omega) only [go_sem, wrO, hw1]
    refine newO_intro fun bN hbN => ?_
    have f2 : Fr m1 (m1.set bN (.cells (rv N fun _ => .slice none 0 0).toArray 55)) [] := Fr.new _ hbN
    have hw2 := f2.get0 hw1
    have hp2 := f2.get0 hp1
    have hNw : bN ≠ B.w := fun e => by rw [e, hw1] at hbN; cases hbN
    have hNp : bN ≠ B.p := fun e => by rw [e, hp1] at hbN; cases hbN
    have hmN : m bN = none := by
      cases h' : m bN with
      | none => rfl
      | some o => rw [fr1.get0 h'] at hbN; cases hbN
    simp (disch := omega) only [go_sem, wrO, hw2]
    refine loopQ_intro (fun g Ev m' => ∃ v f, v ≤ n ∧ g = n - v ∧ Ev = [(0, .slice ea n ec), (5, .pointer (some ⟨B.w, 0, none⟩)), (7, .slice (some ⟨bN, 0, none⟩) N N), (49, .slice (some ⟨B.p, 0, none⟩) n n), (50, .int .i64 (n : Nat)), (51, .int .i64 (v : Nat))] ∧
      Rows m' bN N f (fun p => (List.range v).filter fun u => part u == p) ∧ m' B.w = m1 B.w ∧ m' B.p = m1 B.p ∧ Fr m m' [] ∧ (∀ x, InRows bN N f x → m1 x = none) ∧ (∀ x, m' x = none → m1 x = none)) n rfl ⟨0, fun _ => .slice none 0 0, by omega, by omega, rfl, ?_, ?_, ?_, fr1.trans0 f2, ?_, ?_⟩ ?_
    · exact Rows.new
    · rw [hw2, hw1]
    · rw [hp2, hp1]
    · intro x hx; rw [inRows_new hx]; exact hbN
    · intro x hx; exact (new_ne hx).2
    clear hw2 hp2 f2 hvis h
    rintro g Ev m2 ⟨v, f, hv, rfl, rfl, hr2, hw2, hp2, fr2, fresh2, hmn⟩
    rw [hw1] at hw2
    rw [hp1] at hp2
    have hrb := hr2.hb
    simp (disch := omega) only [go_sem, wrO]
    refine condB_dec (fun h => ?_) (fun h => ?_)
    · have hvn : v < n := by omega
      have hpv := hpt.lt v hvn
      simp (disch := omega) only [go_sem, wrO, hp2, hrb]
      refine newO_intro fun bn hbn => ?_
      have f3 : Fr m2 (m2.set bn (.cells [Value.int .i64 (v : Nat)].toArray 3)) [] := Fr.new _ hbn
      have hlen : ((List.range v).filter fun u => part u == part v).length ≤ 512 := by
        have := List.length_filter_le (fun u => part u == part v) (List.range v)
        rw [List.length_range] at this; omega
      simp (disch := omega) only [go_sem, wrO]
      refine app_own (n := ((List.range v).filter fun u => part u == part v).length) (k := 1) (c := 1) (news := [.int .i64 (v : Nat)]) ((hr2.own (part v) hpv).frame0 f3) rfl ?_ rfl (by simp [Value.oneCell']) rfl (by omega) (by omega) ?_
      · exact ldS_cell (l := [.int .i64 (v : Nat)]) (set_self _ _) (by simp)
      intro w5 m5 own5 f5 hblk
      obtain ⟨hr6, hrb5, f6, hin⟩ := hr2.step hpv f3 own5 f5 hblk
      obtain ⟨wa, wc, rfl⟩ := own5.form
      simp (disch := omega) only [go_sem, wrO, hrb5]
      have hin' : ∀ x, m1 x ≠ none → x ∉ bN :: blkOf (f (part v)) := fun x hx hx' => by
        rcases List.mem_cons.1 hx' with e | e
        · exact hx (fresh2 x (.inl e))
        · exact hx (fresh2 x (.inr ⟨part v, hpv, e⟩))
      refine handN_intro (n - (v + 1)) (by omega) ⟨v + 1, _, by omega, rfl, rfl, by rw [nodesTo_succ]; exact hr6, ?_, ?_, ?_, fun x hx => ?_, fun x hx => ?_⟩
      · rw [hw1]; exact f6.get (f3.get0 hw2) (hin' _ (by rw [hw1]; exact Option.some_ne_none _))
      · rw [hp1]; exact f6.get (f3.get0 hp2) (hin' _ (by rw [hp1]; exact Option.some_ne_none _))
      · refine (fr2.trans0 f3).trans f6 (fun x hx hne => ?_)
        obtain ⟨o, ho⟩ := Option.ne_none_iff_exists'.1 hne
        exact (hin' x (by rw [fr1.get0 ho]; exact Option.some_ne_none _) hx).elim
      · rcases hin x hx with h' | h'
        · exact fresh2 x h'
        · exact hmn x (new_ne h').2
      · have h5 := (new_ne hx).2
        cases h' : m1 x with
        | none => rfl
        | some o =>
          exfalso
          have h2 : m2 x ≠ none := fun e => by have := hmn x e; rw [h'] at this; cases this
          obtain ⟨o2, ho2⟩ := Option.ne_none_iff_exists'.1 h2
          have := f6.get (f3.get0 ho2) (hin' x (by rw [h']; exact Option.some_ne_none _))
          rw [this] at hx; cases hx
    · have hve : n = v := by omega
      subst hve
      have hm1n : ∀ x, m1 x = none → m x = none := fun x hx => by
        cases h' : m x with
        | none => rfl
        | some o => rw [fr1.get0 h'] at hx; cases hx
      simp (disch := omega) only [go_sem, wrO, hw2]
      refine call_with (order_spec m2 n _ E part N B.p bN f hn (hg0.frame fr2) hpt hp2 hr2 (fun x => m x = none) (fun x hx => hm1n x (hmn x hx)) (fun p hp x hx => hm1n x (fresh2 x (.inr ⟨p, hp, hx⟩)))) ?_
      rintro r m3 ⟨l, hout, hrd, fr3⟩
      simp (disch := omega) only [go_sem, wrO]
      exact post_intro ⟨r, l, rfl, hout, hrd, fr2.trans0 fr3⟩
end Go.Fw
