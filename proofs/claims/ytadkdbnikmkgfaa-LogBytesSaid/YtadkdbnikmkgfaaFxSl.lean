import Derived.Test.YtadkdbnikmkgfaaFxRow
/-! Walks whose own memory is a list of things, each with the blocks that it hangs on. -/
set_option linter.unusedVariables false
namespace Go.Fw
open Go
structure As where
  fp : List Nat
  wp : List Nat
  sub : ∀ b ∈ wp, b ∈ fp
  p : Mem → Prop
  st : ∀ {m m' : Mem}, p m → (∀ b ∈ fp, m' b = m b) → p m'
  th : ∀ {m : Mem}, p m → ∀ b ∈ fp, m b ≠ none
def cellA (b : Nat) (o : Obj) : As where
  fp := [b]
  wp := [b]
  sub _ h := h
  p m := m b = some o
  st h e := by rw [e _ (by simp)]; exact h
  th h b' hb := by simp at hb; subst hb; rw [h]; exact Option.some_ne_none _
@[simp] theorem cellA_fp (b : Nat) (o : Obj) : (cellA b o).fp = [b] := rfl
@[simp] theorem cellA_wp (b : Nat) (o : Obj) : (cellA b o).wp = [b] := rfl
abbrev nilA : As where
  fp := []
  wp := []
  sub _ h := h
  p _ := True
  st _ _ := trivial
  th _ b hb := by cases hb
def Apart (A B : As) : Prop := (∀ b ∈ A.wp, b ∉ B.fp) ∧ ∀ b ∈ B.wp, b ∉ A.fp
theorem Apart.symm {A B : As} (h : Apart A B) : Apart B A := ⟨h.2, h.1⟩
abbrev starA (A B : As) : As where
  fp := A.fp ++ B.fp
  wp := A.wp ++ B.wp
  sub b h := (List.mem_append.1 h).elim (fun h => List.mem_append_left _ (A.sub b h)) (fun h => List.mem_append_right _ (B.sub b h))
  p m := A.p m ∧ B.p m ∧ Apart A B
  st h e := ⟨A.st h.1 fun b hb => e b (List.mem_append_left _ hb), B.st h.2.1 fun b hb => e b (List.mem_append_right _ hb), h.2.2⟩
  th h b hb := (List.mem_append.1 hb).elim (A.th h.1 b) (B.th h.2.1 b)
theorem As.fr {A : As} {m m' : Mem} {T : List Nat} (h : A.p m) (f : Fr m m' T) (hT : ∀ b ∈ A.fp, b ∉ T) : A.p m' := A.st h fun b hb => f b (A.th h b hb) (hT b hb)
theorem As.fr0 {A : As} {m m' : Mem} (h : A.p m) (f : Fr m m' []) : A.p m' := A.fr h f fun _ _ => by simp

abbrev Hps (m : Mem) : List As → Prop
  | [] => True
  | A :: r => A.p m ∧ Hps m r
theorem Hps.mem {m : Mem} : ∀ {L : List As}, Hps m L → ∀ A ∈ L, A.p m
  | A :: r, h, B, hB => by
    rcases List.mem_cons.1 hB with rfl | hB
    · exact h.1
    · exact Hps.mem h.2 B hB
theorem Hps.of {m : Mem} : ∀ {L : List As}, (∀ A ∈ L, A.p m) → Hps m L
  | [], _ => trivial
  | A :: r, h => ⟨h A (List.mem_cons_self ..), Hps.of fun B hB => h B (List.mem_cons_of_mem _ hB)⟩

/-- m has come out of m0; L is the walk's own memory; but for it only blocks of S may have turned -/
structure Hq (m0 m : Mem) (S : List Nat) (L : List As) : Prop where
  hs : Hps m L
  fr : Fr m0 m S
  dj : L.Pairwise Apart
  nw : ∀ A ∈ L, ∀ b ∈ A.wp, m0 b = none ∨ b ∈ S
section
variable {P : Program} {m0 m M : Mem} {S : List Nat} {L : List As} {A A' B : As}
theorem Hq.refl (m : Mem) (S : List Nat) : Hq m m S [] := ⟨trivial, Fr.refl _ _, .nil, by simp⟩
theorem Hq.one (h : A.p m) : Hq m m A.wp [A] := ⟨⟨h, trivial⟩, Fr.refl _ _, by simp, fun B hB b hb => by simp at hB; subst hB; exact .inr hb⟩
theorem Hq.two (h : A.p m) (h' : B.p m) (hd : Apart A B) : Hq m m (A.wp ++ B.wp) [A, B] :=
  ⟨⟨h, h', trivial⟩, Fr.refl _ _, by simpa using hd, fun C hC b hb => by
    simp at hC
    rcases hC with rfl | rfl
    · exact .inr (List.mem_append_left _ hb)
    · exact .inr (List.mem_append_right _ hb)⟩
theorem Hq.new0 (H : Hq m0 m S L) {b : Nat} (hb : m b = none) : m0 b = none ∨ b ∈ S := by
  by_cases hS : b ∈ S
  · exact .inr hS
  · cases h0 : m0 b with
    | none => exact .inl rfl
    | some o => rw [H.fr.get h0 hS] at hb; cases hb
theorem Hq.new1 (H : Hq m0 m S L) {b : Nat} (hb : m b = none) : ∀ A ∈ L, b ∉ A.fp := fun A hA h => A.th (H.hs.mem A hA) b h hb
theorem Hq.keep (H : Hq m0 m S L) (f : Fr m M []) : Hq m0 M S L := ⟨Hps.of fun A hA => A.fr0 (H.hs.mem A hA) f, H.fr.trans0 f, H.dj, H.nw⟩
theorem Hq.add (H : Hq m0 m S L) (hp : A.p M) (f : Fr m M []) (hn : ∀ b ∈ A.fp, m b = none) : Hq m0 M S (A :: L) :=
  ⟨⟨hp, (H.keep f).hs⟩, H.fr.trans0 f, List.pairwise_cons.2 ⟨fun B hB => ⟨fun b hb => H.new1 (hn b (A.sub b hb)) B hB, fun b hb ha => H.new1 (hn b ha) B hB (B.sub b hb)⟩, H.dj⟩, fun C hC => by
    rcases List.mem_cons.1 hC with rfl | hC
    · exact fun b hb => H.new0 (hn b (C.sub b hb))
    · exact H.nw C hC⟩
/-- something that is only read comes in -/
theorem Hq.lend (H : Hq m0 m S L) (hp : A.p m) (hw : A.wp = []) (hd : ∀ B ∈ L, ∀ b ∈ B.wp, b ∉ A.fp) : Hq m0 m S (A :: L) :=
  ⟨⟨hp, H.hs⟩, H.fr, List.pairwise_cons.2 ⟨fun B hB => ⟨by simp [hw], hd B hB⟩, H.dj⟩, fun C hC => by
    rcases List.mem_cons.1 hC with rfl | hC
    · simp [hw]
    · exact H.nw C hC⟩
theorem Hq.perm (H : Hq m0 m S L) {L' : List As} (h : L'.Perm L) : Hq m0 m S L' :=
  ⟨Hps.of fun A hA => H.hs.mem A (h.mem_iff.1 hA), H.fr, (h.pairwise_iff fun h => Apart.symm h).2 H.dj, fun A hA => H.nw A (h.mem_iff.1 hA)⟩
theorem Hq.tail (H : Hq m0 m S (A :: L)) : Hq m0 m S L := ⟨H.hs.2, H.fr, (List.pairwise_cons.1 H.dj).2, fun B hB => H.nw B (List.mem_cons_of_mem _ hB)⟩
theorem Hq.rep0 (H : Hq m0 m S (A :: L)) (hp : A'.p M) (f : Fr m M A.wp) (hn : ∀ b ∈ A'.fp, b ∈ A.fp ∨ m b = none) (hw : ∀ b ∈ A'.wp, b ∈ A.wp ∨ m b = none) : Hq m0 M S (A' :: L) := by
  obtain ⟨hA, hL⟩ := List.pairwise_cons.1 H.dj
  refine ⟨⟨hp, Hps.of fun B hB => B.fr (H.tail.hs.mem B hB) f fun b hb ha => (hA B hB).1 b ha hb⟩, H.fr.trans f fun x hx h0 => (H.nw A (List.mem_cons_self ..) x hx).resolve_left h0, ?_, ?_⟩
  · refine List.pairwise_cons.2 ⟨fun B hB => ⟨fun b hb hbB => ?_, fun b hb hbA => ?_⟩, hL⟩
    · rcases hw b hb with h | h
      · exact (hA B hB).1 b h hbB
      · exact B.th (H.tail.hs.mem B hB) b hbB h
    · rcases hn b hbA with h | h
      · exact (hA B hB).2 b hb h
      · exact B.th (H.tail.hs.mem B hB) b (B.sub b hb) h
  · intro C hC b hb
    rcases List.mem_cons.1 hC with rfl | hC
    · rcases hw b hb with h | h
      · exact H.nw A (List.mem_cons_self ..) b h
      · exact H.new0 h
    · exact H.nw C (List.mem_cons_of_mem _ hC) b hb
theorem up_perm {α : Type} : ∀ {l : List α} {i : Nat} {a : α}, l[i]? = some a → (a :: l.eraseIdx i).Perm l
  | x :: r, 0, a, h => by simp at h; subst h; exact List.Perm.refl _
  | x :: r, i + 1, a, h => (List.Perm.swap x a _).trans ((up_perm (by simpa using h)).cons x)
theorem set_perm {α : Type} : ∀ {l : List α} {i : Nat} (a : α), i < l.length → (a :: l.eraseIdx i).Perm (l.set i a)
  | x :: r, 0, a, h => List.Perm.refl _
  | x :: r, i + 1, a, h => (List.Perm.swap x a _).trans ((set_perm a (by simpa using h)).cons x)
/-- the i-th comes to the head -/
theorem Hq.up (H : Hq m0 m S L) (i : Nat) (hi : L[i]? = some A) : Hq m0 m S (A :: L.eraseIdx i) := H.perm (up_perm hi)
theorem Hq.rep (H : Hq m0 m S L) (i : Nat) (hi : L[i]? = some A) (hp : A'.p M) (f : Fr m M A.wp) (hn : ∀ b ∈ A'.fp, b ∈ A.fp ∨ m b = none) (hw : ∀ b ∈ A'.wp, b ∈ A.wp ∨ m b = none) : Hq m0 M S (L.set i A') := by
  exact ((H.up i hi).rep0 hp f hn hw).perm (set_perm A' (List.getElem?_eq_some_iff.1 hi).1).symm
theorem Hq.drop (H : Hq m0 m S L) (i : Nat) : Hq m0 m S (L.eraseIdx i) :=
  ⟨Hps.of fun A hA => H.hs.mem A ((List.eraseIdx_sublist ..).subset hA), H.fr, H.dj.sublist (List.eraseIdx_sublist ..), fun A hA => H.nw A ((List.eraseIdx_sublist ..).subset hA)⟩
theorem Hq.at (H : Hq m0 m S L) (i : Nat) (hi : L[i]? = some A) : A.p m := H.hs.mem A (List.mem_of_getElem? hi)
theorem Hq.split (H : Hq m0 m S (starA A B :: L)) : Hq m0 m S (A :: B :: L) := by
  obtain ⟨hA, hL⟩ := List.pairwise_cons.1 H.dj
  refine ⟨⟨H.hs.1.1, H.hs.1.2.1, H.hs.2⟩, H.fr, ?_, ?_⟩
  · refine List.pairwise_cons.2 ⟨fun C hC => ?_, List.pairwise_cons.2 ⟨fun C hC => ⟨fun b hb => (hA C hC).1 b (List.mem_append_right _ hb), fun b hb h => (hA C hC).2 b hb (List.mem_append_right _ h)⟩, hL⟩⟩
    rcases List.mem_cons.1 hC with rfl | hC
    · exact H.hs.1.2.2
    · exact ⟨fun b hb => (hA C hC).1 b (List.mem_append_left _ hb), fun b hb h => (hA C hC).2 b hb (List.mem_append_left _ h)⟩
  · intro C hC b hb
    rcases List.mem_cons.1 hC with rfl | hC
    · exact H.nw _ (List.mem_cons_self ..) b (List.mem_append_left _ hb)
    · rcases List.mem_cons.1 hC with rfl | hC
      · exact H.nw _ (List.mem_cons_self ..) b (List.mem_append_right _ hb)
      · exact H.nw C (List.mem_cons_of_mem _ hC) b hb
theorem Hq.join (H : Hq m0 m S (A :: B :: L)) : Hq m0 m S (starA A B :: L) := by
  obtain ⟨hA, hL⟩ := List.pairwise_cons.1 H.dj
  obtain ⟨hB, hL⟩ := List.pairwise_cons.1 hL
  refine ⟨⟨⟨H.hs.1, H.hs.2.1, hA B (List.mem_cons_self ..)⟩, H.hs.2.2⟩, H.fr, List.pairwise_cons.2 ⟨fun C hC => ⟨fun b hb => ?_, fun b hb h => ?_⟩, hL⟩, ?_⟩
  · rcases List.mem_append.1 hb with hb | hb
    · exact (hA C (List.mem_cons_of_mem _ hC)).1 b hb
    · exact (hB C hC).1 b hb
  · rcases List.mem_append.1 h with h | h
    · exact (hA C (List.mem_cons_of_mem _ hC)).2 b hb h
    · exact (hB C hC).2 b hb h
  · intro C hC b hb
    rcases List.mem_cons.1 hC with rfl | hC
    · rcases List.mem_append.1 hb with hb | hb
      · exact H.nw _ (List.mem_cons_self ..) b hb
      · exact H.nw _ (List.mem_cons_of_mem _ (List.mem_cons_self ..)) b hb
    · exact H.nw C (List.mem_cons_of_mem _ (List.mem_cons_of_mem _ hC)) b hb
/-- the end of a contract: what was A is A' -/
theorem Hq.done (H : Hq m0 m S (A :: L)) : A.p m ∧ Fr m0 m S ∧ ∀ b ∈ A.wp, b ∈ S ∨ m0 b = none := ⟨H.hs.1, H.fr, fun b hb => (H.nw A (List.mem_cons_self ..) b hb).symm⟩

/-- two things with the same blocks -/
class SameB (A' A : As) : Prop where
  fp : A'.fp = A.fp
  wp : A'.wp = A.wp
/-- what is known of blocks by the list -/
class CellF (L : List As) (G : outParam (List (Nat × Obj))) : Prop where
  h : ∀ m, Hps m L → Hs m G
instance : CellF [] [] := ⟨fun _ _ => trivial⟩
instance (priority := low) {A : As} {L : List As} {G : List (Nat × Obj)} [I : CellF L G] : CellF (A :: L) G := ⟨fun m h => I.h m h.2⟩
instance {b : Nat} {o : Obj} {L : List As} {G : List (Nat × Obj)} [I : CellF L G] : CellF (cellA b o :: L) ((b, o) :: G) := ⟨fun m h => ⟨h.1, I.h m h.2⟩⟩
theorem Hq.cs {G : List (Nat × Obj)} [I : CellF L G] (H : Hq m0 m S L) : Hs m G := I.h m H.hs
/-- a contract: A turns into one of R -/
abbrev CM (P : Program) (f : Nat) (args : List Value) (m : Mem) (A : As) (R : Value → As → Prop) : Prop :=
  MC P f args m fun v M => ∃ A', R v A' ∧ A'.p M ∧ Fr m M A.wp ∧ (∀ b ∈ A'.fp, b ∈ A.fp ∨ m b = none) ∧ ∀ b ∈ A'.wp, b ∈ A.wp ∨ m b = none
/-- a contract: a new thing, one of R -/
abbrev CN (P : Program) (f : Nat) (args : List Value) (m : Mem) (R : Value → As → Prop) : Prop :=
  MC P f args m fun v M => ∃ A', R v A' ∧ A'.p M ∧ Fr m M [] ∧ ∀ b ∈ A'.fp, m b = none

theorem newQ {o : Obj} {J : Nat → Mem → Prop} {l : Lk J} {l' : Lk m} (H : Hq m0 m S L) (k : ∀ b M, Fr m M [] → Hq m0 M S (cellA b o :: L) → J b M) : newO m o J l l' :=
  fun b hb => k b _ (Fr.new _ hb) (H.add (A := cellA b o) (set_self _ _) (Fr.new _ hb) (by simpa using hb))
theorem wrQ {b : Nat} {x o : Obj} {J : Mem → Prop} {l : Lk J} {l' : Lk m} (i : Nat) (H : Hq m0 m S L) (hi : L[i]? = some (cellA b o)) (k : ∀ M, Fr m M [b] → Hq m0 M S (L.set i (cellA b x)) → J M) : wrO m b x J l l' :=
  k _ (Fr.set (by simp)) (H.rep (A := cellA b o) (A' := cellA b x) i hi (set_self _ _) (Fr.set (by simp)) (fun b hb => .inl hb) (fun b hb => .inl hb))
theorem stQ' {b off : Nat} {c vs : List Value} {T : TypeId} {J : Mem → Prop} {l : Lk J} {l' : Lk m} (i : Nat) (H : Hq m0 m S L) (hi : L[i]? = some (cellA b (.cells c.toArray T (0, 0)))) (hl : off + vs.length ≤ c.length) (h1 : vs.all Value.oneCell' = true)
    (k : ∀ M, Fr m M [b] → Hq m0 M S (L.set i (cellA b (.cells (c.take off ++ vs ++ c.drop (off + vs.length)).toArray T (0, 0)))) → J M) : stQ m ⟨b, off, none⟩ 0 vs J l l' := by
  have h := stCells_row (t := T) (b := b) (o := off) vs 0 m c (H.at i hi) (by simpa using hl) (fun v hv => List.all_eq_true.1 h1 v hv)
  simp only [Nat.add_zero] at h
  exact ⟨_, h, k _ (Fr.set (by simp)) (H.rep (A := cellA b (.cells c.toArray T (0, 0))) (A' := cellA b (.cells (c.take off ++ vs ++ c.drop (off + vs.length)).toArray T (0, 0))) i hi (set_self _ _) (Fr.set (by simp)) (fun b hb => .inl hb) (fun b hb => .inl hb))⟩
theorem stwQ {b : Nat} {c vs : List Value} {T : TypeId} {J : Mem → Prop} {l : Lk J} {l' : Lk m} (i : Nat) (H : Hq m0 m S L) (hi : L[i]? = some (cellA b (.cells c.toArray T (0, 0)))) (hl : vs.length = c.length) (h1 : vs.all Value.oneCell' = true)
    (k : ∀ M, Fr m M [b] → Hq m0 M S (L.set i (cellA b (.cells vs.toArray T (0, 0)))) → J M) : stQ m ⟨b, 0, none⟩ 0 vs J l l' :=
  stQ' i H hi (by omega) h1 fun M f H' => k M f (by
    have : List.drop (0 + vs.length) c = [] := List.drop_eq_nil_iff.2 (by omega)
    rw [this] at H'; simpa using H')
theorem callQ {f : Nat} {args : List Value} {V : Value} {K : Value → Mem → Prop} {l : Lk K} (H : Hq m0 m S L) (h : MC P f args m fun v M => v = V ∧ Fr m M []) (k : ∀ M, Fr m M [] → Hq m0 M S L → K V M) : callP P f args m K l :=
  call_with h fun v M ⟨e, g⟩ => by subst e; exact k M g (H.keep g)
theorem callR {f : Nat} {args : List Value} {R : Value → Mem → Prop} {K : Value → Mem → Prop} {l : Lk K} (H : Hq m0 m S L) (h : MC P f args m fun v M => R v M ∧ Fr m M []) (k : ∀ v M, R v M → Fr m M [] → Hq m0 M S L → K v M) : callP P f args m K l :=
  call_with h fun v M ⟨e, g⟩ => k v M e g (H.keep g)
theorem callA {f : Nat} {args : List Value} {R : Value → As → Prop} {K : Value → Mem → Prop} {l : Lk K} (i : Nat) (H : Hq m0 m S L) (h : CM P f args m A R) (hi : L[i]? = some A) (k : ∀ v M A', R v A' → Fr m M A.wp → Hq m0 M S (L.set i A') → K v M) : callP P f args m K l :=
  call_with h fun v M ⟨A', hr, hp, g, hn, hw⟩ => k v M A' hr g (H.rep i hi hp g hn hw)
/-- a thing turns into another one with the same blocks -/
theorem callS {f : Nat} {args : List Value} {V : Value} {K : Value → Mem → Prop} {l : Lk K} (i : Nat) (A A' : As) (H : Hq m0 m S L) (h : MC P f args m fun v M => (v = V ∧ A'.p M) ∧ Fr m M A.wp) (hi : L[i]? = some A) (hf : A'.fp = A.fp) (hw : A'.wp = A.wp)
    (k : ∀ M, Fr m M A.wp → Hq m0 M S (L.set i A') → K V M) : callP P f args m K l :=
  call_with h fun v M ⟨⟨e, hp⟩, g⟩ => by subst e; exact k M g (H.rep i hi hp g (fun b hb => .inl (hf ▸ hb)) (fun b hb => .inl (hw ▸ hb)))
theorem callN {f : Nat} {args : List Value} {R : Value → As → Prop} {K : Value → Mem → Prop} {l : Lk K} (H : Hq m0 m S L) (h : CN P f args m R) (k : ∀ v M A', R v A' → Fr m M [] → Hq m0 M S (A' :: L) → K v M) : callP P f args m K l :=
  call_with h fun v M ⟨A', hr, hp, g, hn⟩ => k v M A' hr g (H.add hp g hn)

/-! rows -/
theorem Own.st {m m' : Mem} {t : TypeId} {size n : Nat} {v : Value} {xs : List Value} (h : Own m t size v n xs) (e : ∀ b ∈ blkOf v, m' b = m b) : Own m' t size v n xs := by
  refine ⟨h.1, ?_⟩
  rcases h.2 with h | ⟨b, cap, tail, rfl, hb, hl⟩
  · exact .inl h
  · exact .inr ⟨b, cap, tail, rfl, by rw [e b (by simp [blkOf])]; exact hb, hl⟩
/-- a row of the walk's own: size cells an element -/
abbrev ownA (t : TypeId) (size : Nat) (v : Value) (n : Nat) (xs : List Value) : As where
  fp := blkOf v
  wp := blkOf v
  sub _ h := h
  p m := Own m t size v n xs
  st h e := Own.st h e
  th h := h.there
theorem appQ' {t : TypeId} {size bytes : Nat} {zero : List Value} {x y : Value} {K : Value → Mem → Prop} {l : Lk K} {l1 : Lk x} {l2 : Lk m} {n k c : Nat} {b : Option Addr} {xs news : List Value} (i : Nat)
    (H : Hq m0 m S L) (hi : L[i]? = some (ownA t size x n xs)) (hy : y = .slice b k c) (hnews : ldS m b (k * size) = some news) (hk : news.length = k * size) (h1 : ∀ v ∈ news, v.oneCell' = true) (hz : zero.length = size)
    (hb : (n + k) * bytes ≤ 140737488355328) (h62 : n + k ≤ 4611686018427387904)
    (hK : ∀ v M, Fr m M (blkOf x) → Hq m0 M S (L.set i (ownA t size v (n + k) (xs ++ news))) → K v M) : appQ P t size bytes zero x y m K l l1 l2 :=
  app_own (H.at i hi) hy hnews hk h1 hz hb h62 fun v M ho f hb => hK v M f (H.rep (A' := ownA t size v (n + k) (xs ++ news)) i hi ho f hb hb)
theorem apsQ' {t : TypeId} {x : Value} {K : Value → Mem → Prop} {l : Lk K} {l1 : Lk x} {l2 : Lk m} {n : Nat} {s : ByteArray} {xs : List Value} (i : Nat)
    (H : Hq m0 m S L) (hi : L[i]? = some (ownA t 1 x n xs)) (hb : n + s.size ≤ 140737488355328)
    (hK : ∀ v M, Fr m M (blkOf x) → Hq m0 M S (L.set i (ownA t 1 v (n + s.size) (xs ++ s.data.toList.map fun (c : UInt8) => Value.int .u8 c.toNat))) → K v M) : apsQ P t x (.string s) m K l l1 l2 :=
  aps_own (H.at i hi) hb fun v M ho f hb => hK v M f (H.rep (A' := ownA t 1 v (n + s.size) (xs ++ s.data.toList.map fun (c : UInt8) => Value.int .u8 c.toNat)) i hi ho f hb hb)
theorem Own.formK {G : Prop} {t : TypeId} {size n : Nat} {v : Value} {xs : List Value} (h : Own m t size v n xs) (K : ∀ a c, v = .slice a n c → G) : G := by
  obtain ⟨a, c, e⟩ := h.form
  exact K a c e
/-- a block of the walk's own is a row with room -/
theorem Hq.toRow {b : Nat} {l : List Value} {t : TypeId} (H : Hq m0 m S (cellA b (.cells l.toArray t (0, 0)) :: L)) (size n cap : Nat) (h1 : l.length = cap * size) (h2 : n ≤ cap) : Hq m0 m S (ownA t size (.slice (some ⟨b, 0, none⟩) n cap) n (l.take (n * size)) :: L) := by
  have h3 : n * size ≤ cap * size := Nat.mul_le_mul_right _ h2
  have hb : m b = some (.cells l.toArray t (0, 0)) := H.hs.1
  refine H.rep0 (M := m) (A' := ownA t size (.slice (some ⟨b, 0, none⟩) n cap) n (l.take (n * size))) ⟨by rw [List.length_take]; omega, .inr ⟨b, cap, l.drop (n * size), rfl, by rw [List.take_append_drop]; exact hb, by rw [List.take_append_drop]; exact h1⟩⟩ (Fr.refl _ _) ?_ ?_
  · intro x hx; exact .inl hx
  · intro x hx; exact .inl hx
theorem ldS_cell {b n : Nat} {l : List Value} {t : TypeId} {fr : Nat × Nat} (h : m b = some (.cells l.toArray t fr)) (hn : n ≤ l.length) : ldS m (some ⟨b, 0, none⟩) n = some (l.take n) := by
  simp only [ldS]
  rw [ldCells_row h n 0 0 (by omega)]; simp
/-- an empty row to begin with -/
theorem Hq.nilRow (H : Hq m0 m S L) (t : TypeId) (size : Nat) : Hq m0 m S (ownA t size (.slice none 0 0) 0 [] :: L) := H.add (A := ownA t size (.slice none 0 0) 0 []) (Own.nil _ _ _) (Fr.refl _ _) (by simp [blkOf])
theorem wrQ0 {b : Nat} {x o : Obj} {J : Mem → Prop} {l : Lk J} {l' : Lk m} (H : Hq m0 m S (cellA b o :: L)) (k : ∀ M, Fr m M [b] → Hq m0 M S (cellA b x :: L) → J M) : wrO m b x J l l' := wrQ 0 H rfl k
theorem stwQ0 {b : Nat} {c vs : List Value} {T : TypeId} {J : Mem → Prop} {l : Lk J} {l' : Lk m} (H : Hq m0 m S (cellA b (.cells c.toArray T (0, 0)) :: L)) (hl : vs.length = c.length) (h1 : vs.all Value.oneCell' = true)
    (k : ∀ M, Fr m M [b] → Hq m0 M S (cellA b (.cells vs.toArray T (0, 0)) :: L) → J M) : stQ m ⟨b, 0, none⟩ 0 vs J l l' := stwQ 0 H rfl hl h1 k
theorem stQ0 {b off : Nat} {c vs : List Value} {T : TypeId} {J : Mem → Prop} {l : Lk J} {l' : Lk m} (H : Hq m0 m S (cellA b (.cells c.toArray T (0, 0)) :: L)) (hl : off + vs.length ≤ c.length) (h1 : vs.all Value.oneCell' = true)
    (k : ∀ M, Fr m M [b] → Hq m0 M S (cellA b (.cells (c.take off ++ vs ++ c.drop (off + vs.length)).toArray T (0, 0)) :: L) → J M) : stQ m ⟨b, off, none⟩ 0 vs J l l' := stQ' 0 H rfl hl h1 k
theorem callA0 {f : Nat} {args : List Value} {R : Value → As → Prop} {K : Value → Mem → Prop} {l : Lk K} (H : Hq m0 m S (A :: L)) (h : CM P f args m A R) (k : ∀ v M A', R v A' → Fr m M A.wp → Hq m0 M S (A' :: L) → K v M) : callP P f args m K l := callA 0 H h rfl k
theorem callS0 {f : Nat} {args : List Value} {V : Value} {K : Value → Mem → Prop} {l : Lk K} (A' : As) (H : Hq m0 m S (A :: L)) (h : MC P f args m fun v M => (v = V ∧ A'.p M) ∧ Fr m M A.wp) (hf : A'.fp = A.fp) (hw : A'.wp = A.wp)
    (k : ∀ M, Fr m M A.wp → Hq m0 M S (A' :: L) → K V M) : callP P f args m K l := callS 0 A A' H h rfl hf hw k
theorem tS0 {f : Nat} {args : List Value} {V : Value} {K : Value → Mem → Prop} {l : Lk K} {A' : As} (H : Hq m0 m S (A :: L)) (h : A.p m → MC P f args m fun v M => (v = V ∧ A'.p M) ∧ Fr m M A.wp) [I : SameB A' A]
    (k : ∀ M, Fr m M A.wp → Hq m0 M S (A' :: L) → K V M) : callP P f args m K l := callS 0 A A' H (h (H.at 0 rfl)) rfl I.fp I.wp k
theorem tQ0 {f : Nat} {args : List Value} {V : Value} {K : Value → Mem → Prop} {l : Lk K} (H : Hq m0 m S (A :: L)) (h : A.p m → MC P f args m fun v M => v = V ∧ Fr m M [])
    (k : ∀ M, Fr m M [] → Hq m0 M S (A :: L) → K V M) : callP P f args m K l := callQ H (h (H.at 0 rfl)) k
theorem tN0 {f : Nat} {args : List Value} {R : Value → As → Prop} {K : Value → Mem → Prop} {l : Lk K} (H : Hq m0 m S (A :: L)) (h : A.p m → CN P f args m R)
    (k : ∀ v M A', R v A' → Fr m M [] → Hq m0 M S (A' :: A :: L) → K v M) : callP P f args m K l := callN H (h (H.at 0 rfl)) k
theorem repQ0 (H : Hq m0 m S (A :: L)) (hp : A'.p M) (f : Fr m M A.wp) (hn : ∀ b ∈ A'.fp, b ∈ A.fp ∨ m b = none) (hw : ∀ b ∈ A'.wp, b ∈ A.wp ∨ m b = none) : Hq m0 M S (A' :: L) := H.rep 0 rfl hp f hn hw
theorem dropQ0 (H : Hq m0 m S (A :: L)) : Hq m0 m S (L) := H.drop 0
theorem upQ0 (H : Hq m0 m S (A :: L)) : Hq m0 m S (A :: L) := H.up 0 rfl
theorem downQ0 (H : Hq m0 m S (A :: L)) : Hq m0 m S (A :: L) := H.perm (set_perm (l := A :: L) (i := 0) A (by simp)).symm
theorem appQ0 {t : TypeId} {size bytes : Nat} {zero : List Value} {x y : Value} {K : Value → Mem → Prop} {l : Lk K} {l1 : Lk x} {l2 : Lk m} {n k c : Nat} {b : Option Addr} {xs news : List Value}
    (H : Hq m0 m S (ownA t size x n xs :: L)) (hy : y = .slice b k c) (hnews : ldS m b (k * size) = some news) (hk : news.length = k * size) (h1 : ∀ v ∈ news, v.oneCell' = true) (hz : zero.length = size)
    (hb : (n + k) * bytes ≤ 140737488355328) (h62 : n + k ≤ 4611686018427387904)
    (hK : ∀ v M, Fr m M (blkOf x) → Hq m0 M S (ownA t size v (n + k) (xs ++ news) :: L) → K v M) : appQ P t size bytes zero x y m K l l1 l2 := appQ' 0 H rfl hy hnews hk h1 hz hb h62 hK
theorem apsQ0 {t : TypeId} {x : Value} {K : Value → Mem → Prop} {l : Lk K} {l1 : Lk x} {l2 : Lk m} {n : Nat} {s : ByteArray} {xs : List Value}
    (H : Hq m0 m S (ownA t 1 x n xs :: L)) (hb : n + s.size ≤ 140737488355328)
    (hK : ∀ v M, Fr m M (blkOf x) → Hq m0 M S (ownA t 1 v (n + s.size) (xs ++ s.data.toList.map fun (c : UInt8) => Value.int .u8 c.toNat) :: L) → K v M) : apsQ P t x (.string s) m K l l1 l2 := apsQ' 0 H rfl hb hK

theorem wrQ1 {X0 : As} {b : Nat} {x o : Obj} {J : Mem → Prop} {l : Lk J} {l' : Lk m} (H : Hq m0 m S (X0 :: cellA b o :: L)) (k : ∀ M, Fr m M [b] → Hq m0 M S (X0 :: cellA b x :: L) → J M) : wrO m b x J l l' := wrQ 1 H rfl k
theorem stwQ1 {X0 : As} {b : Nat} {c vs : List Value} {T : TypeId} {J : Mem → Prop} {l : Lk J} {l' : Lk m} (H : Hq m0 m S (X0 :: cellA b (.cells c.toArray T (0, 0)) :: L)) (hl : vs.length = c.length) (h1 : vs.all Value.oneCell' = true)
    (k : ∀ M, Fr m M [b] → Hq m0 M S (X0 :: cellA b (.cells vs.toArray T (0, 0)) :: L) → J M) : stQ m ⟨b, 0, none⟩ 0 vs J l l' := stwQ 1 H rfl hl h1 k
theorem stQ1 {X0 : As} {b off : Nat} {c vs : List Value} {T : TypeId} {J : Mem → Prop} {l : Lk J} {l' : Lk m} (H : Hq m0 m S (X0 :: cellA b (.cells c.toArray T (0, 0)) :: L)) (hl : off + vs.length ≤ c.length) (h1 : vs.all Value.oneCell' = true)
    (k : ∀ M, Fr m M [b] → Hq m0 M S (X0 :: cellA b (.cells (c.take off ++ vs ++ c.drop (off + vs.length)).toArray T (0, 0)) :: L) → J M) : stQ m ⟨b, off, none⟩ 0 vs J l l' := stQ' 1 H rfl hl h1 k
theorem callA1 {X0 : As} {f : Nat} {args : List Value} {R : Value → As → Prop} {K : Value → Mem → Prop} {l : Lk K} (H : Hq m0 m S (X0 :: A :: L)) (h : CM P f args m A R) (k : ∀ v M A', R v A' → Fr m M A.wp → Hq m0 M S (X0 :: A' :: L) → K v M) : callP P f args m K l := callA 1 H h rfl k
theorem callS1 {X0 : As} {f : Nat} {args : List Value} {V : Value} {K : Value → Mem → Prop} {l : Lk K} (A' : As) (H : Hq m0 m S (X0 :: A :: L)) (h : MC P f args m fun v M => (v = V ∧ A'.p M) ∧ Fr m M A.wp) (hf : A'.fp = A.fp) (hw : A'.wp = A.wp)
    (k : ∀ M, Fr m M A.wp → Hq m0 M S (X0 :: A' :: L) → K V M) : callP P f args m K l := callS 1 A A' H h rfl hf hw k
theorem tS1 {X0 : As} {f : Nat} {args : List Value} {V : Value} {K : Value → Mem → Prop} {l : Lk K} {A' : As} (H : Hq m0 m S (X0 :: A :: L)) (h : A.p m → MC P f args m fun v M => (v = V ∧ A'.p M) ∧ Fr m M A.wp) [I : SameB A' A]
    (k : ∀ M, Fr m M A.wp → Hq m0 M S (X0 :: A' :: L) → K V M) : callP P f args m K l := callS 1 A A' H (h (H.at 1 rfl)) rfl I.fp I.wp k
theorem tQ1 {X0 : As} {f : Nat} {args : List Value} {V : Value} {K : Value → Mem → Prop} {l : Lk K} (H : Hq m0 m S (X0 :: A :: L)) (h : A.p m → MC P f args m fun v M => v = V ∧ Fr m M [])
    (k : ∀ M, Fr m M [] → Hq m0 M S (X0 :: A :: L) → K V M) : callP P f args m K l := callQ H (h (H.at 1 rfl)) k
theorem tN1 {X0 : As} {f : Nat} {args : List Value} {R : Value → As → Prop} {K : Value → Mem → Prop} {l : Lk K} (H : Hq m0 m S (X0 :: A :: L)) (h : A.p m → CN P f args m R)
    (k : ∀ v M A', R v A' → Fr m M [] → Hq m0 M S (A' :: X0 :: A :: L) → K v M) : callP P f args m K l := callN H (h (H.at 1 rfl)) k
theorem repQ1 {X0 : As} (H : Hq m0 m S (X0 :: A :: L)) (hp : A'.p M) (f : Fr m M A.wp) (hn : ∀ b ∈ A'.fp, b ∈ A.fp ∨ m b = none) (hw : ∀ b ∈ A'.wp, b ∈ A.wp ∨ m b = none) : Hq m0 M S (X0 :: A' :: L) := H.rep 1 rfl hp f hn hw
theorem dropQ1 {X0 : As} (H : Hq m0 m S (X0 :: A :: L)) : Hq m0 m S (X0 :: L) := H.drop 1
theorem upQ1 {X0 : As} (H : Hq m0 m S (X0 :: A :: L)) : Hq m0 m S (A :: X0 :: L) := H.up 1 rfl
theorem downQ1 {X0 : As} (H : Hq m0 m S (A :: X0 :: L)) : Hq m0 m S (X0 :: A :: L) := H.perm (set_perm (l := X0 :: A :: L) (i := 1) A (by simp)).symm
theorem appQ1 {X0 : As} {t : TypeId} {size bytes : Nat} {zero : List Value} {x y : Value} {K : Value → Mem → Prop} {l : Lk K} {l1 : Lk x} {l2 : Lk m} {n k c : Nat} {b : Option Addr} {xs news : List Value}
    (H : Hq m0 m S (X0 :: ownA t size x n xs :: L)) (hy : y = .slice b k c) (hnews : ldS m b (k * size) = some news) (hk : news.length = k * size) (h1 : ∀ v ∈ news, v.oneCell' = true) (hz : zero.length = size)
    (hb : (n + k) * bytes ≤ 140737488355328) (h62 : n + k ≤ 4611686018427387904)
    (hK : ∀ v M, Fr m M (blkOf x) → Hq m0 M S (X0 :: ownA t size v (n + k) (xs ++ news) :: L) → K v M) : appQ P t size bytes zero x y m K l l1 l2 := appQ' 1 H rfl hy hnews hk h1 hz hb h62 hK
theorem apsQ1 {X0 : As} {t : TypeId} {x : Value} {K : Value → Mem → Prop} {l : Lk K} {l1 : Lk x} {l2 : Lk m} {n : Nat} {s : ByteArray} {xs : List Value}
    (H : Hq m0 m S (X0 :: ownA t 1 x n xs :: L)) (hb : n + s.size ≤ 140737488355328)
    (hK : ∀ v M, Fr m M (blkOf x) → Hq m0 M S (X0 :: ownA t 1 v (n + s.size) (xs ++ s.data.toList.map fun (c : UInt8) => Value.int .u8 c.toNat) :: L) → K v M) : apsQ P t x (.string s) m K l l1 l2 := apsQ' 1 H rfl hb hK

theorem wrQ2 {X0 X1 : As} {b : Nat} {x o : Obj} {J : Mem → Prop} {l : Lk J} {l' : Lk m} (H : Hq m0 m S (X0 :: X1 :: cellA b o :: L)) (k : ∀ M, Fr m M [b] → Hq m0 M S (X0 :: X1 :: cellA b x :: L) → J M) : wrO m b x J l l' := wrQ 2 H rfl k
theorem stwQ2 {X0 X1 : As} {b : Nat} {c vs : List Value} {T : TypeId} {J : Mem → Prop} {l : Lk J} {l' : Lk m} (H : Hq m0 m S (X0 :: X1 :: cellA b (.cells c.toArray T (0, 0)) :: L)) (hl : vs.length = c.length) (h1 : vs.all Value.oneCell' = true)
    (k : ∀ M, Fr m M [b] → Hq m0 M S (X0 :: X1 :: cellA b (.cells vs.toArray T (0, 0)) :: L) → J M) : stQ m ⟨b, 0, none⟩ 0 vs J l l' := stwQ 2 H rfl hl h1 k
theorem stQ2 {X0 X1 : As} {b off : Nat} {c vs : List Value} {T : TypeId} {J : Mem → Prop} {l : Lk J} {l' : Lk m} (H : Hq m0 m S (X0 :: X1 :: cellA b (.cells c.toArray T (0, 0)) :: L)) (hl : off + vs.length ≤ c.length) (h1 : vs.all Value.oneCell' = true)
    (k : ∀ M, Fr m M [b] → Hq m0 M S (X0 :: X1 :: cellA b (.cells (c.take off ++ vs ++ c.drop (off + vs.length)).toArray T (0, 0)) :: L) → J M) : stQ m ⟨b, off, none⟩ 0 vs J l l' := stQ' 2 H rfl hl h1 k
theorem callA2 {X0 X1 : As} {f : Nat} {args : List Value} {R : Value → As → Prop} {K : Value → Mem → Prop} {l : Lk K} (H : Hq m0 m S (X0 :: X1 :: A :: L)) (h : CM P f args m A R) (k : ∀ v M A', R v A' → Fr m M A.wp → Hq m0 M S (X0 :: X1 :: A' :: L) → K v M) : callP P f args m K l := callA 2 H h rfl k
theorem callS2 {X0 X1 : As} {f : Nat} {args : List Value} {V : Value} {K : Value → Mem → Prop} {l : Lk K} (A' : As) (H : Hq m0 m S (X0 :: X1 :: A :: L)) (h : MC P f args m fun v M => (v = V ∧ A'.p M) ∧ Fr m M A.wp) (hf : A'.fp = A.fp) (hw : A'.wp = A.wp)
    (k : ∀ M, Fr m M A.wp → Hq m0 M S (X0 :: X1 :: A' :: L) → K V M) : callP P f args m K l := callS 2 A A' H h rfl hf hw k
theorem tS2 {X0 X1 : As} {f : Nat} {args : List Value} {V : Value} {K : Value → Mem → Prop} {l : Lk K} {A' : As} (H : Hq m0 m S (X0 :: X1 :: A :: L)) (h : A.p m → MC P f args m fun v M => (v = V ∧ A'.p M) ∧ Fr m M A.wp) [I : SameB A' A]
    (k : ∀ M, Fr m M A.wp → Hq m0 M S (X0 :: X1 :: A' :: L) → K V M) : callP P f args m K l := callS 2 A A' H (h (H.at 2 rfl)) rfl I.fp I.wp k
theorem tQ2 {X0 X1 : As} {f : Nat} {args : List Value} {V : Value} {K : Value → Mem → Prop} {l : Lk K} (H : Hq m0 m S (X0 :: X1 :: A :: L)) (h : A.p m → MC P f args m fun v M => v = V ∧ Fr m M [])
    (k : ∀ M, Fr m M [] → Hq m0 M S (X0 :: X1 :: A :: L) → K V M) : callP P f args m K l := callQ H (h (H.at 2 rfl)) k
theorem tN2 {X0 X1 : As} {f : Nat} {args : List Value} {R : Value → As → Prop} {K : Value → Mem → Prop} {l : Lk K} (H : Hq m0 m S (X0 :: X1 :: A :: L)) (h : A.p m → CN P f args m R)
    (k : ∀ v M A', R v A' → Fr m M [] → Hq m0 M S (A' :: X0 :: X1 :: A :: L) → K v M) : callP P f args m K l := callN H (h (H.at 2 rfl)) k
theorem repQ2 {X0 X1 : As} (H : Hq m0 m S (X0 :: X1 :: A :: L)) (hp : A'.p M) (f : Fr m M A.wp) (hn : ∀ b ∈ A'.fp, b ∈ A.fp ∨ m b = none) (hw : ∀ b ∈ A'.wp, b ∈ A.wp ∨ m b = none) : Hq m0 M S (X0 :: X1 :: A' :: L) := H.rep 2 rfl hp f hn hw
theorem dropQ2 {X0 X1 : As} (H : Hq m0 m S (X0 :: X1 :: A :: L)) : Hq m0 m S (X0 :: X1 :: L) := H.drop 2
theorem upQ2 {X0 X1 : As} (H : Hq m0 m S (X0 :: X1 :: A :: L)) : Hq m0 m S (A :: X0 :: X1 :: L) := H.up 2 rfl
theorem downQ2 {X0 X1 : As} (H : Hq m0 m S (A :: X0 :: X1 :: L)) : Hq m0 m S (X0 :: X1 :: A :: L) := H.perm (set_perm (l := X0 :: X1 :: A :: L) (i := 2) A (by simp)).symm
theorem appQ2 {X0 X1 : As} {t : TypeId} {size bytes : Nat} {zero : List Value} {x y : Value} {K : Value → Mem → Prop} {l : Lk K} {l1 : Lk x} {l2 : Lk m} {n k c : Nat} {b : Option Addr} {xs news : List Value}
    (H : Hq m0 m S (X0 :: X1 :: ownA t size x n xs :: L)) (hy : y = .slice b k c) (hnews : ldS m b (k * size) = some news) (hk : news.length = k * size) (h1 : ∀ v ∈ news, v.oneCell' = true) (hz : zero.length = size)
    (hb : (n + k) * bytes ≤ 140737488355328) (h62 : n + k ≤ 4611686018427387904)
    (hK : ∀ v M, Fr m M (blkOf x) → Hq m0 M S (X0 :: X1 :: ownA t size v (n + k) (xs ++ news) :: L) → K v M) : appQ P t size bytes zero x y m K l l1 l2 := appQ' 2 H rfl hy hnews hk h1 hz hb h62 hK
theorem apsQ2 {X0 X1 : As} {t : TypeId} {x : Value} {K : Value → Mem → Prop} {l : Lk K} {l1 : Lk x} {l2 : Lk m} {n : Nat} {s : ByteArray} {xs : List Value}
    (H : Hq m0 m S (X0 :: X1 :: ownA t 1 x n xs :: L)) (hb : n + s.size ≤ 140737488355328)
    (hK : ∀ v M, Fr m M (blkOf x) → Hq m0 M S (X0 :: X1 :: ownA t 1 v (n + s.size) (xs ++ s.data.toList.map fun (c : UInt8) => Value.int .u8 c.toNat) :: L) → K v M) : apsQ P t x (.string s) m K l l1 l2 := apsQ' 2 H rfl hb hK

theorem wrQ3 {X0 X1 X2 : As} {b : Nat} {x o : Obj} {J : Mem → Prop} {l : Lk J} {l' : Lk m} (H : Hq m0 m S (X0 :: X1 :: X2 :: cellA b o :: L)) (k : ∀ M, Fr m M [b] → Hq m0 M S (X0 :: X1 :: X2 :: cellA b x :: L) → J M) : wrO m b x J l l' := wrQ 3 H rfl k
theorem stwQ3 {X0 X1 X2 : As} {b : Nat} {c vs : List Value} {T : TypeId} {J : Mem → Prop} {l : Lk J} {l' : Lk m} (H : Hq m0 m S (X0 :: X1 :: X2 :: cellA b (.cells c.toArray T (0, 0)) :: L)) (hl : vs.length = c.length) (h1 : vs.all Value.oneCell' = true)
    (k : ∀ M, Fr m M [b] → Hq m0 M S (X0 :: X1 :: X2 :: cellA b (.cells vs.toArray T (0, 0)) :: L) → J M) : stQ m ⟨b, 0, none⟩ 0 vs J l l' := stwQ 3 H rfl hl h1 k
theorem stQ3 {X0 X1 X2 : As} {b off : Nat} {c vs : List Value} {T : TypeId} {J : Mem → Prop} {l : Lk J} {l' : Lk m} (H : Hq m0 m S (X0 :: X1 :: X2 :: cellA b (.cells c.toArray T (0, 0)) :: L)) (hl : off + vs.length ≤ c.length) (h1 : vs.all Value.oneCell' = true)
    (k : ∀ M, Fr m M [b] → Hq m0 M S (X0 :: X1 :: X2 :: cellA b (.cells (c.take off ++ vs ++ c.drop (off + vs.length)).toArray T (0, 0)) :: L) → J M) : stQ m ⟨b, off, none⟩ 0 vs J l l' := stQ' 3 H rfl hl h1 k
theorem callA3 {X0 X1 X2 : As} {f : Nat} {args : List Value} {R : Value → As → Prop} {K : Value → Mem → Prop} {l : Lk K} (H : Hq m0 m S (X0 :: X1 :: X2 :: A :: L)) (h : CM P f args m A R) (k : ∀ v M A', R v A' → Fr m M A.wp → Hq m0 M S (X0 :: X1 :: X2 :: A' :: L) → K v M) : callP P f args m K l := callA 3 H h rfl k
theorem callS3 {X0 X1 X2 : As} {f : Nat} {args : List Value} {V : Value} {K : Value → Mem → Prop} {l : Lk K} (A' : As) (H : Hq m0 m S (X0 :: X1 :: X2 :: A :: L)) (h : MC P f args m fun v M => (v = V ∧ A'.p M) ∧ Fr m M A.wp) (hf : A'.fp = A.fp) (hw : A'.wp = A.wp)
    (k : ∀ M, Fr m M A.wp → Hq m0 M S (X0 :: X1 :: X2 :: A' :: L) → K V M) : callP P f args m K l := callS 3 A A' H h rfl hf hw k
theorem tS3 {X0 X1 X2 : As} {f : Nat} {args : List Value} {V : Value} {K : Value → Mem → Prop} {l : Lk K} {A' : As} (H : Hq m0 m S (X0 :: X1 :: X2 :: A :: L)) (h : A.p m → MC P f args m fun v M => (v = V ∧ A'.p M) ∧ Fr m M A.wp) [I : SameB A' A]
    (k : ∀ M, Fr m M A.wp → Hq m0 M S (X0 :: X1 :: X2 :: A' :: L) → K V M) : callP P f args m K l := callS 3 A A' H (h (H.at 3 rfl)) rfl I.fp I.wp k
theorem tQ3 {X0 X1 X2 : As} {f : Nat} {args : List Value} {V : Value} {K : Value → Mem → Prop} {l : Lk K} (H : Hq m0 m S (X0 :: X1 :: X2 :: A :: L)) (h : A.p m → MC P f args m fun v M => v = V ∧ Fr m M [])
    (k : ∀ M, Fr m M [] → Hq m0 M S (X0 :: X1 :: X2 :: A :: L) → K V M) : callP P f args m K l := callQ H (h (H.at 3 rfl)) k
theorem tN3 {X0 X1 X2 : As} {f : Nat} {args : List Value} {R : Value → As → Prop} {K : Value → Mem → Prop} {l : Lk K} (H : Hq m0 m S (X0 :: X1 :: X2 :: A :: L)) (h : A.p m → CN P f args m R)
    (k : ∀ v M A', R v A' → Fr m M [] → Hq m0 M S (A' :: X0 :: X1 :: X2 :: A :: L) → K v M) : callP P f args m K l := callN H (h (H.at 3 rfl)) k
theorem repQ3 {X0 X1 X2 : As} (H : Hq m0 m S (X0 :: X1 :: X2 :: A :: L)) (hp : A'.p M) (f : Fr m M A.wp) (hn : ∀ b ∈ A'.fp, b ∈ A.fp ∨ m b = none) (hw : ∀ b ∈ A'.wp, b ∈ A.wp ∨ m b = none) : Hq m0 M S (X0 :: X1 :: X2 :: A' :: L) := H.rep 3 rfl hp f hn hw
theorem dropQ3 {X0 X1 X2 : As} (H : Hq m0 m S (X0 :: X1 :: X2 :: A :: L)) : Hq m0 m S (X0 :: X1 :: X2 :: L) := H.drop 3
theorem upQ3 {X0 X1 X2 : As} (H : Hq m0 m S (X0 :: X1 :: X2 :: A :: L)) : Hq m0 m S (A :: X0 :: X1 :: X2 :: L) := H.up 3 rfl
theorem downQ3 {X0 X1 X2 : As} (H : Hq m0 m S (A :: X0 :: X1 :: X2 :: L)) : Hq m0 m S (X0 :: X1 :: X2 :: A :: L) := H.perm (set_perm (l := X0 :: X1 :: X2 :: A :: L) (i := 3) A (by simp)).symm
theorem appQ3 {X0 X1 X2 : As} {t : TypeId} {size bytes : Nat} {zero : List Value} {x y : Value} {K : Value → Mem → Prop} {l : Lk K} {l1 : Lk x} {l2 : Lk m} {n k c : Nat} {b : Option Addr} {xs news : List Value}
    (H : Hq m0 m S (X0 :: X1 :: X2 :: ownA t size x n xs :: L)) (hy : y = .slice b k c) (hnews : ldS m b (k * size) = some news) (hk : news.length = k * size) (h1 : ∀ v ∈ news, v.oneCell' = true) (hz : zero.length = size)
    (hb : (n + k) * bytes ≤ 140737488355328) (h62 : n + k ≤ 4611686018427387904)
    (hK : ∀ v M, Fr m M (blkOf x) → Hq m0 M S (X0 :: X1 :: X2 :: ownA t size v (n + k) (xs ++ news) :: L) → K v M) : appQ P t size bytes zero x y m K l l1 l2 := appQ' 3 H rfl hy hnews hk h1 hz hb h62 hK
theorem apsQ3 {X0 X1 X2 : As} {t : TypeId} {x : Value} {K : Value → Mem → Prop} {l : Lk K} {l1 : Lk x} {l2 : Lk m} {n : Nat} {s : ByteArray} {xs : List Value}
    (H : Hq m0 m S (X0 :: X1 :: X2 :: ownA t 1 x n xs :: L)) (hb : n + s.size ≤ 140737488355328)
    (hK : ∀ v M, Fr m M (blkOf x) → Hq m0 M S (X0 :: X1 :: X2 :: ownA t 1 v (n + s.size) (xs ++ s.data.toList.map fun (c : UInt8) => Value.int .u8 c.toNat) :: L) → K v M) : apsQ P t x (.string s) m K l l1 l2 := apsQ' 3 H rfl hb hK

theorem wrQ4 {X0 X1 X2 X3 : As} {b : Nat} {x o : Obj} {J : Mem → Prop} {l : Lk J} {l' : Lk m} (H : Hq m0 m S (X0 :: X1 :: X2 :: X3 :: cellA b o :: L)) (k : ∀ M, Fr m M [b] → Hq m0 M S (X0 :: X1 :: X2 :: X3 :: cellA b x :: L) → J M) : wrO m b x J l l' := wrQ 4 H rfl k
theorem stwQ4 {X0 X1 X2 X3 : As} {b : Nat} {c vs : List Value} {T : TypeId} {J : Mem → Prop} {l : Lk J} {l' : Lk m} (H : Hq m0 m S (X0 :: X1 :: X2 :: X3 :: cellA b (.cells c.toArray T (0, 0)) :: L)) (hl : vs.length = c.length) (h1 : vs.all Value.oneCell' = true)
    (k : ∀ M, Fr m M [b] → Hq m0 M S (X0 :: X1 :: X2 :: X3 :: cellA b (.cells vs.toArray T (0, 0)) :: L) → J M) : stQ m ⟨b, 0, none⟩ 0 vs J l l' := stwQ 4 H rfl hl h1 k
theorem stQ4 {X0 X1 X2 X3 : As} {b off : Nat} {c vs : List Value} {T : TypeId} {J : Mem → Prop} {l : Lk J} {l' : Lk m} (H : Hq m0 m S (X0 :: X1 :: X2 :: X3 :: cellA b (.cells c.toArray T (0, 0)) :: L)) (hl : off + vs.length ≤ c.length) (h1 : vs.all Value.oneCell' = true)
    (k : ∀ M, Fr m M [b] → Hq m0 M S (X0 :: X1 :: X2 :: X3 :: cellA b (.cells (c.take off ++ vs ++ c.drop (off + vs.length)).toArray T (0, 0)) :: L) → J M) : stQ m ⟨b, off, none⟩ 0 vs J l l' := stQ' 4 H rfl hl h1 k
theorem callA4 {X0 X1 X2 X3 : As} {f : Nat} {args : List Value} {R : Value → As → Prop} {K : Value → Mem → Prop} {l : Lk K} (H : Hq m0 m S (X0 :: X1 :: X2 :: X3 :: A :: L)) (h : CM P f args m A R) (k : ∀ v M A', R v A' → Fr m M A.wp → Hq m0 M S (X0 :: X1 :: X2 :: X3 :: A' :: L) → K v M) : callP P f args m K l := callA 4 H h rfl k
theorem callS4 {X0 X1 X2 X3 : As} {f : Nat} {args : List Value} {V : Value} {K : Value → Mem → Prop} {l : Lk K} (A' : As) (H : Hq m0 m S (X0 :: X1 :: X2 :: X3 :: A :: L)) (h : MC P f args m fun v M => (v = V ∧ A'.p M) ∧ Fr m M A.wp) (hf : A'.fp = A.fp) (hw : A'.wp = A.wp)
    (k : ∀ M, Fr m M A.wp → Hq m0 M S (X0 :: X1 :: X2 :: X3 :: A' :: L) → K V M) : callP P f args m K l := callS 4 A A' H h rfl hf hw k
theorem tS4 {X0 X1 X2 X3 : As} {f : Nat} {args : List Value} {V : Value} {K : Value → Mem → Prop} {l : Lk K} {A' : As} (H : Hq m0 m S (X0 :: X1 :: X2 :: X3 :: A :: L)) (h : A.p m → MC P f args m fun v M => (v = V ∧ A'.p M) ∧ Fr m M A.wp) [I : SameB A' A]
    (k : ∀ M, Fr m M A.wp → Hq m0 M S (X0 :: X1 :: X2 :: X3 :: A' :: L) → K V M) : callP P f args m K l := callS 4 A A' H (h (H.at 4 rfl)) rfl I.fp I.wp k
theorem tQ4 {X0 X1 X2 X3 : As} {f : Nat} {args : List Value} {V : Value} {K : Value → Mem → Prop} {l : Lk K} (H : Hq m0 m S (X0 :: X1 :: X2 :: X3 :: A :: L)) (h : A.p m → MC P f args m fun v M => v = V ∧ Fr m M [])
    (k : ∀ M, Fr m M [] → Hq m0 M S (X0 :: X1 :: X2 :: X3 :: A :: L) → K V M) : callP P f args m K l := callQ H (h (H.at 4 rfl)) k
theorem tN4 {X0 X1 X2 X3 : As} {f : Nat} {args : List Value} {R : Value → As → Prop} {K : Value → Mem → Prop} {l : Lk K} (H : Hq m0 m S (X0 :: X1 :: X2 :: X3 :: A :: L)) (h : A.p m → CN P f args m R)
    (k : ∀ v M A', R v A' → Fr m M [] → Hq m0 M S (A' :: X0 :: X1 :: X2 :: X3 :: A :: L) → K v M) : callP P f args m K l := callN H (h (H.at 4 rfl)) k
theorem repQ4 {X0 X1 X2 X3 : As} (H : Hq m0 m S (X0 :: X1 :: X2 :: X3 :: A :: L)) (hp : A'.p M) (f : Fr m M A.wp) (hn : ∀ b ∈ A'.fp, b ∈ A.fp ∨ m b = none) (hw : ∀ b ∈ A'.wp, b ∈ A.wp ∨ m b = none) : Hq m0 M S (X0 :: X1 :: X2 :: X3 :: A' :: L) := H.rep 4 rfl hp f hn hw
theorem dropQ4 {X0 X1 X2 X3 : As} (H : Hq m0 m S (X0 :: X1 :: X2 :: X3 :: A :: L)) : Hq m0 m S (X0 :: X1 :: X2 :: X3 :: L) := H.drop 4
theorem upQ4 {X0 X1 X2 X3 : As} (H : Hq m0 m S (X0 :: X1 :: X2 :: X3 :: A :: L)) : Hq m0 m S (A :: X0 :: X1 :: X2 :: X3 :: L) := H.up 4 rfl
theorem downQ4 {X0 X1 X2 X3 : As} (H : Hq m0 m S (A :: X0 :: X1 :: X2 :: X3 :: L)) : Hq m0 m S (X0 :: X1 :: X2 :: X3 :: A :: L) := H.perm (set_perm (l := X0 :: X1 :: X2 :: X3 :: A :: L) (i := 4) A (by simp)).symm
theorem appQ4 {X0 X1 X2 X3 : As} {t : TypeId} {size bytes : Nat} {zero : List Value} {x y : Value} {K : Value → Mem → Prop} {l : Lk K} {l1 : Lk x} {l2 : Lk m} {n k c : Nat} {b : Option Addr} {xs news : List Value}
    (H : Hq m0 m S (X0 :: X1 :: X2 :: X3 :: ownA t size x n xs :: L)) (hy : y = .slice b k c) (hnews : ldS m b (k * size) = some news) (hk : news.length = k * size) (h1 : ∀ v ∈ news, v.oneCell' = true) (hz : zero.length = size)
    (hb : (n + k) * bytes ≤ 140737488355328) (h62 : n + k ≤ 4611686018427387904)
    (hK : ∀ v M, Fr m M (blkOf x) → Hq m0 M S (X0 :: X1 :: X2 :: X3 :: ownA t size v (n + k) (xs ++ news) :: L) → K v M) : appQ P t size bytes zero x y m K l l1 l2 := appQ' 4 H rfl hy hnews hk h1 hz hb h62 hK
theorem apsQ4 {X0 X1 X2 X3 : As} {t : TypeId} {x : Value} {K : Value → Mem → Prop} {l : Lk K} {l1 : Lk x} {l2 : Lk m} {n : Nat} {s : ByteArray} {xs : List Value}
    (H : Hq m0 m S (X0 :: X1 :: X2 :: X3 :: ownA t 1 x n xs :: L)) (hb : n + s.size ≤ 140737488355328)
    (hK : ∀ v M, Fr m M (blkOf x) → Hq m0 M S (X0 :: X1 :: X2 :: X3 :: ownA t 1 v (n + s.size) (xs ++ s.data.toList.map fun (c : UInt8) => Value.int .u8 c.toNat) :: L) → K v M) : apsQ P t x (.string s) m K l l1 l2 := apsQ' 4 H rfl hb hK

theorem wrQ5 {X0 X1 X2 X3 X4 : As} {b : Nat} {x o : Obj} {J : Mem → Prop} {l : Lk J} {l' : Lk m} (H : Hq m0 m S (X0 :: X1 :: X2 :: X3 :: X4 :: cellA b o :: L)) (k : ∀ M, Fr m M [b] → Hq m0 M S (X0 :: X1 :: X2 :: X3 :: X4 :: cellA b x :: L) → J M) : wrO m b x J l l' := wrQ 5 H rfl k
theorem stwQ5 {X0 X1 X2 X3 X4 : As} {b : Nat} {c vs : List Value} {T : TypeId} {J : Mem → Prop} {l : Lk J} {l' : Lk m} (H : Hq m0 m S (X0 :: X1 :: X2 :: X3 :: X4 :: cellA b (.cells c.toArray T (0, 0)) :: L)) (hl : vs.length = c.length) (h1 : vs.all Value.oneCell' = true)
    (k : ∀ M, Fr m M [b] → Hq m0 M S (X0 :: X1 :: X2 :: X3 :: X4 :: cellA b (.cells vs.toArray T (0, 0)) :: L) → J M) : stQ m ⟨b, 0, none⟩ 0 vs J l l' := stwQ 5 H rfl hl h1 k
theorem stQ5 {X0 X1 X2 X3 X4 : As} {b off : Nat} {c vs : List Value} {T : TypeId} {J : Mem → Prop} {l : Lk J} {l' : Lk m} (H : Hq m0 m S (X0 :: X1 :: X2 :: X3 :: X4 :: cellA b (.cells c.toArray T (0, 0)) :: L)) (hl : off + vs.length ≤ c.length) (h1 : vs.all Value.oneCell' = true)
    (k : ∀ M, Fr m M [b] → Hq m0 M S (X0 :: X1 :: X2 :: X3 :: X4 :: cellA b (.cells (c.take off ++ vs ++ c.drop (off + vs.length)).toArray T (0, 0)) :: L) → J M) : stQ m ⟨b, off, none⟩ 0 vs J l l' := stQ' 5 H rfl hl h1 k
theorem callA5 {X0 X1 X2 X3 X4 : As} {f : Nat} {args : List Value} {R : Value → As → Prop} {K : Value → Mem → Prop} {l : Lk K} (H : Hq m0 m S (X0 :: X1 :: X2 :: X3 :: X4 :: A :: L)) (h : CM P f args m A R) (k : ∀ v M A', R v A' → Fr m M A.wp → Hq m0 M S (X0 :: X1 :: X2 :: X3 :: X4 :: A' :: L) → K v M) : callP P f args m K l := callA 5 H h rfl k
theorem callS5 {X0 X1 X2 X3 X4 : As} {f : Nat} {args : List Value} {V : Value} {K : Value → Mem → Prop} {l : Lk K} (A' : As) (H : Hq m0 m S (X0 :: X1 :: X2 :: X3 :: X4 :: A :: L)) (h : MC P f args m fun v M => (v = V ∧ A'.p M) ∧ Fr m M A.wp) (hf : A'.fp = A.fp) (hw : A'.wp = A.wp)
    (k : ∀ M, Fr m M A.wp → Hq m0 M S (X0 :: X1 :: X2 :: X3 :: X4 :: A' :: L) → K V M) : callP P f args m K l := callS 5 A A' H h rfl hf hw k
theorem tS5 {X0 X1 X2 X3 X4 : As} {f : Nat} {args : List Value} {V : Value} {K : Value → Mem → Prop} {l : Lk K} {A' : As} (H : Hq m0 m S (X0 :: X1 :: X2 :: X3 :: X4 :: A :: L)) (h : A.p m → MC P f args m fun v M => (v = V ∧ A'.p M) ∧ Fr m M A.wp) [I : SameB A' A]
    (k : ∀ M, Fr m M A.wp → Hq m0 M S (X0 :: X1 :: X2 :: X3 :: X4 :: A' :: L) → K V M) : callP P f args m K l := callS 5 A A' H (h (H.at 5 rfl)) rfl I.fp I.wp k
theorem tQ5 {X0 X1 X2 X3 X4 : As} {f : Nat} {args : List Value} {V : Value} {K : Value → Mem → Prop} {l : Lk K} (H : Hq m0 m S (X0 :: X1 :: X2 :: X3 :: X4 :: A :: L)) (h : A.p m → MC P f args m fun v M => v = V ∧ Fr m M [])
    (k : ∀ M, Fr m M [] → Hq m0 M S (X0 :: X1 :: X2 :: X3 :: X4 :: A :: L) → K V M) : callP P f args m K l := callQ H (h (H.at 5 rfl)) k
theorem tN5 {X0 X1 X2 X3 X4 : As} {f : Nat} {args : List Value} {R : Value → As → Prop} {K : Value → Mem → Prop} {l : Lk K} (H : Hq m0 m S (X0 :: X1 :: X2 :: X3 :: X4 :: A :: L)) (h : A.p m → CN P f args m R)
    (k : ∀ v M A', R v A' → Fr m M [] → Hq m0 M S (A' :: X0 :: X1 :: X2 :: X3 :: X4 :: A :: L) → K v M) : callP P f args m K l := callN H (h (H.at 5 rfl)) k
theorem repQ5 {X0 X1 X2 X3 X4 : As} (H : Hq m0 m S (X0 :: X1 :: X2 :: X3 :: X4 :: A :: L)) (hp : A'.p M) (f : Fr m M A.wp) (hn : ∀ b ∈ A'.fp, b ∈ A.fp ∨ m b = none) (hw : ∀ b ∈ A'.wp, b ∈ A.wp ∨ m b = none) : Hq m0 M S (X0 :: X1 :: X2 :: X3 :: X4 :: A' :: L) := H.rep 5 rfl hp f hn hw
theorem dropQ5 {X0 X1 X2 X3 X4 : As} (H : Hq m0 m S (X0 :: X1 :: X2 :: X3 :: X4 :: A :: L)) : Hq m0 m S (X0 :: X1 :: X2 :: X3 :: X4 :: L) := H.drop 5
theorem upQ5 {X0 X1 X2 X3 X4 : As} (H : Hq m0 m S (X0 :: X1 :: X2 :: X3 :: X4 :: A :: L)) : Hq m0 m S (A :: X0 :: X1 :: X2 :: X3 :: X4 :: L) := H.up 5 rfl
theorem downQ5 {X0 X1 X2 X3 X4 : As} (H : Hq m0 m S (A :: X0 :: X1 :: X2 :: X3 :: X4 :: L)) : Hq m0 m S (X0 :: X1 :: X2 :: X3 :: X4 :: A :: L) := H.perm (set_perm (l := X0 :: X1 :: X2 :: X3 :: X4 :: A :: L) (i := 5) A (by simp)).symm
theorem appQ5 {X0 X1 X2 X3 X4 : As} {t : TypeId} {size bytes : Nat} {zero : List Value} {x y : Value} {K : Value → Mem → Prop} {l : Lk K} {l1 : Lk x} {l2 : Lk m} {n k c : Nat} {b : Option Addr} {xs news : List Value}
    (H : Hq m0 m S (X0 :: X1 :: X2 :: X3 :: X4 :: ownA t size x n xs :: L)) (hy : y = .slice b k c) (hnews : ldS m b (k * size) = some news) (hk : news.length = k * size) (h1 : ∀ v ∈ news, v.oneCell' = true) (hz : zero.length = size)
    (hb : (n + k) * bytes ≤ 140737488355328) (h62 : n + k ≤ 4611686018427387904)
    (hK : ∀ v M, Fr m M (blkOf x) → Hq m0 M S (X0 :: X1 :: X2 :: X3 :: X4 :: ownA t size v (n + k) (xs ++ news) :: L) → K v M) : appQ P t size bytes zero x y m K l l1 l2 := appQ' 5 H rfl hy hnews hk h1 hz hb h62 hK
theorem apsQ5 {X0 X1 X2 X3 X4 : As} {t : TypeId} {x : Value} {K : Value → Mem → Prop} {l : Lk K} {l1 : Lk x} {l2 : Lk m} {n : Nat} {s : ByteArray} {xs : List Value}
    (H : Hq m0 m S (X0 :: X1 :: X2 :: X3 :: X4 :: ownA t 1 x n xs :: L)) (hb : n + s.size ≤ 140737488355328)
    (hK : ∀ v M, Fr m M (blkOf x) → Hq m0 M S (X0 :: X1 :: X2 :: X3 :: X4 :: ownA t 1 v (n + s.size) (xs ++ s.data.toList.map fun (c : UInt8) => Value.int .u8 c.toNat) :: L) → K v M) : apsQ P t x (.string s) m K l l1 l2 := apsQ' 5 H rfl hb hK

theorem wrQ6 {X0 X1 X2 X3 X4 X5 : As} {b : Nat} {x o : Obj} {J : Mem → Prop} {l : Lk J} {l' : Lk m} (H : Hq m0 m S (X0 :: X1 :: X2 :: X3 :: X4 :: X5 :: cellA b o :: L)) (k : ∀ M, Fr m M [b] → Hq m0 M S (X0 :: X1 :: X2 :: X3 :: X4 :: X5 :: cellA b x :: L) → J M) : wrO m b x J l l' := wrQ 6 H rfl k
theorem stwQ6 {X0 X1 X2 X3 X4 X5 : As} {b : Nat} {c vs : List Value} {T : TypeId} {J : Mem → Prop} {l : Lk J} {l' : Lk m} (H : Hq m0 m S (X0 :: X1 :: X2 :: X3 :: X4 :: X5 :: cellA b (.cells c.toArray T (0, 0)) :: L)) (hl : vs.length = c.length) (h1 : vs.all Value.oneCell' = true)
    (k : ∀ M, Fr m M [b] → Hq m0 M S (X0 :: X1 :: X2 :: X3 :: X4 :: X5 :: cellA b (.cells vs.toArray T (0, 0)) :: L) → J M) : stQ m ⟨b, 0, none⟩ 0 vs J l l' := stwQ 6 H rfl hl h1 k
theorem stQ6 {X0 X1 X2 X3 X4 X5 : As} {b off : Nat} {c vs : List Value} {T : TypeId} {J : Mem → Prop} {l : Lk J} {l' : Lk m} (H : Hq m0 m S (X0 :: X1 :: X2 :: X3 :: X4 :: X5 :: cellA b (.cells c.toArray T (0, 0)) :: L)) (hl : off + vs.length ≤ c.length) (h1 : vs.all Value.oneCell' = true)
    (k : ∀ M, Fr m M [b] → Hq m0 M S (X0 :: X1 :: X2 :: X3 :: X4 :: X5 :: cellA b (.cells (c.take off ++ vs ++ c.drop (off + vs.length)).toArray T (0, 0)) :: L) → J M) : stQ m ⟨b, off, none⟩ 0 vs J l l' := stQ' 6 H rfl hl h1 k
theorem callA6 {X0 X1 X2 X3 X4 X5 : As} {f : Nat} {args : List Value} {R : Value → As → Prop} {K : Value → Mem → Prop} {l : Lk K} (H : Hq m0 m S (X0 :: X1 :: X2 :: X3 :: X4 :: X5 :: A :: L)) (h : CM P f args m A R) (k : ∀ v M A', R v A' → Fr m M A.wp → Hq m0 M S (X0 :: X1 :: X2 :: X3 :: X4 :: X5 :: A' :: L) → K v M) : callP P f args m K l := callA 6 H h rfl k
theorem callS6 {X0 X1 X2 X3 X4 X5 : As} {f : Nat} {args : List Value} {V : Value} {K : Value → Mem → Prop} {l : Lk K} (A' : As) (H : Hq m0 m S (X0 :: X1 :: X2 :: X3 :: X4 :: X5 :: A :: L)) (h : MC P f args m fun v M => (v = V ∧ A'.p M) ∧ Fr m M A.wp) (hf : A'.fp = A.fp) (hw : A'.wp = A.wp)
    (k : ∀ M, Fr m M A.wp → Hq m0 M S (X0 :: X1 :: X2 :: X3 :: X4 :: X5 :: A' :: L) → K V M) : callP P f args m K l := callS 6 A A' H h rfl hf hw k
theorem tS6 {X0 X1 X2 X3 X4 X5 : As} {f : Nat} {args : List Value} {V : Value} {K : Value → Mem → Prop} {l : Lk K} {A' : As} (H : Hq m0 m S (X0 :: X1 :: X2 :: X3 :: X4 :: X5 :: A :: L)) (h : A.p m → MC P f args m fun v M => (v = V ∧ A'.p M) ∧ Fr m M A.wp) [I : SameB A' A]
    (k : ∀ M, Fr m M A.wp → Hq m0 M S (X0 :: X1 :: X2 :: X3 :: X4 :: X5 :: A' :: L) → K V M) : callP P f args m K l := callS 6 A A' H (h (H.at 6 rfl)) rfl I.fp I.wp k
theorem tQ6 {X0 X1 X2 X3 X4 X5 : As} {f : Nat} {args : List Value} {V : Value} {K : Value → Mem → Prop} {l : Lk K} (H : Hq m0 m S (X0 :: X1 :: X2 :: X3 :: X4 :: X5 :: A :: L)) (h : A.p m → MC P f args m fun v M => v = V ∧ Fr m M [])
    (k : ∀ M, Fr m M [] → Hq m0 M S (X0 :: X1 :: X2 :: X3 :: X4 :: X5 :: A :: L) → K V M) : callP P f args m K l := callQ H (h (H.at 6 rfl)) k
theorem tN6 {X0 X1 X2 X3 X4 X5 : As} {f : Nat} {args : List Value} {R : Value → As → Prop} {K : Value → Mem → Prop} {l : Lk K} (H : Hq m0 m S (X0 :: X1 :: X2 :: X3 :: X4 :: X5 :: A :: L)) (h : A.p m → CN P f args m R)
    (k : ∀ v M A', R v A' → Fr m M [] → Hq m0 M S (A' :: X0 :: X1 :: X2 :: X3 :: X4 :: X5 :: A :: L) → K v M) : callP P f args m K l := callN H (h (H.at 6 rfl)) k
theorem repQ6 {X0 X1 X2 X3 X4 X5 : As} (H : Hq m0 m S (X0 :: X1 :: X2 :: X3 :: X4 :: X5 :: A :: L)) (hp : A'.p M) (f : Fr m M A.wp) (hn : ∀ b ∈ A'.fp, b ∈ A.fp ∨ m b = none) (hw : ∀ b ∈ A'.wp, b ∈ A.wp ∨ m b = none) : Hq m0 M S (X0 :: X1 :: X2 :: X3 :: X4 :: X5 :: A' :: L) := H.rep 6 rfl hp f hn hw
theorem dropQ6 {X0 X1 X2 X3 X4 X5 : As} (H : Hq m0 m S (X0 :: X1 :: X2 :: X3 :: X4 :: X5 :: A :: L)) : Hq m0 m S (X0 :: X1 :: X2 :: X3 :: X4 :: X5 :: L) := H.drop 6
theorem upQ6 {X0 X1 X2 X3 X4 X5 : As} (H : Hq m0 m S (X0 :: X1 :: X2 :: X3 :: X4 :: X5 :: A :: L)) : Hq m0 m S (A :: X0 :: X1 :: X2 :: X3 :: X4 :: X5 :: L) := H.up 6 rfl
theorem downQ6 {X0 X1 X2 X3 X4 X5 : As} (H : Hq m0 m S (A :: X0 :: X1 :: X2 :: X3 :: X4 :: X5 :: L)) : Hq m0 m S (X0 :: X1 :: X2 :: X3 :: X4 :: X5 :: A :: L) := H.perm (set_perm (l := X0 :: X1 :: X2 :: X3 :: X4 :: X5 :: A :: L) (i := 6) A (by simp)).symm
theorem appQ6 {X0 X1 X2 X3 X4 X5 : As} {t : TypeId} {size bytes : Nat} {zero : List Value} {x y : Value} {K : Value → Mem → Prop} {l : Lk K} {l1 : Lk x} {l2 : Lk m} {n k c : Nat} {b : Option Addr} {xs news : List Value}
    (H : Hq m0 m S (X0 :: X1 :: X2 :: X3 :: X4 :: X5 :: ownA t size x n xs :: L)) (hy : y = .slice b k c) (hnews : ldS m b (k * size) = some news) (hk : news.length = k * size) (h1 : ∀ v ∈ news, v.oneCell' = true) (hz : zero.length = size)
    (hb : (n + k) * bytes ≤ 140737488355328) (h62 : n + k ≤ 4611686018427387904)
    (hK : ∀ v M, Fr m M (blkOf x) → Hq m0 M S (X0 :: X1 :: X2 :: X3 :: X4 :: X5 :: ownA t size v (n + k) (xs ++ news) :: L) → K v M) : appQ P t size bytes zero x y m K l l1 l2 := appQ' 6 H rfl hy hnews hk h1 hz hb h62 hK
theorem apsQ6 {X0 X1 X2 X3 X4 X5 : As} {t : TypeId} {x : Value} {K : Value → Mem → Prop} {l : Lk K} {l1 : Lk x} {l2 : Lk m} {n : Nat} {s : ByteArray} {xs : List Value}
    (H : Hq m0 m S (X0 :: X1 :: X2 :: X3 :: X4 :: X5 :: ownA t 1 x n xs :: L)) (hb : n + s.size ≤ 140737488355328)
    (hK : ∀ v M, Fr m M (blkOf x) → Hq m0 M S (X0 :: X1 :: X2 :: X3 :: X4 :: X5 :: ownA t 1 v (n + s.size) (xs ++ s.data.toList.map fun (c : UInt8) => Value.int .u8 c.toNat) :: L) → K v M) : apsQ P t x (.string s) m K l l1 l2 := apsQ' 6 H rfl hb hK

end
attribute [irreducible] cellA
end Go.Fw
