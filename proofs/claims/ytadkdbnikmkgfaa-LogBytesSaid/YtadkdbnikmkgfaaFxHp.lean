import Derived.Test.YtadkdbnikmkgfaaFxKit
/-! Walks whose own memory is kept as one list of blocks. -/
set_option linter.unusedVariables false
namespace Go.Fw
open Go

abbrev Hs (M : Mem) : List (Nat × Obj) → Prop
  | [] => True
  | (b, o) :: r => M b = some o ∧ Hs M r
theorem Hs.mem {M : Mem} : ∀ {G : List (Nat × Obj)}, Hs M G → ∀ p ∈ G, M p.1 = some p.2
  | (b, o) :: r, h, p, hp => by
    rcases List.mem_cons.1 hp with rfl | hp
    · exact h.1
    · exact Hs.mem h.2 p hp
theorem Hs.of {M : Mem} : ∀ {G : List (Nat × Obj)}, (∀ p ∈ G, M p.1 = some p.2) → Hs M G
  | [], _ => trivial
  | (b, o) :: r, h => ⟨h (b, o) (List.mem_cons_self ..), Hs.of fun p hp => h p (List.mem_cons_of_mem _ hp)⟩

/-- m has come out of m0; G is the walk's own memory; but for it only the blocks of S may have turned -/
structure Hp (m0 m : Mem) (S : List Nat) (G : List (Nat × Obj)) : Prop where
  hs : Hs m G
  fr : Fr m0 m S
  nd : (G.map Prod.fst).Nodup
  nw : ∀ p ∈ G, m0 p.1 = none ∧ p.1 ∉ S
  ex : ∀ s ∈ S, m s ≠ none

theorem gP_mono {L : Nat → Value} {g : Gd} {σ : Env} {y n y' n' : Prop} (hy : y → y') (hn : n → n') (hh : gP L σ g y n) : gP L σ g y' n' := by
  cases g with
  | none => exact hy hh
  | some xw => exact ⟨fun e => hy (hh.1 e), fun e => hn (hh.2 e)⟩
theorem etP_mono {P : Program} {L : Nat → Value} {K K' : Env → Mem → Prop} (hK : ∀ E m, K E m → K' E m) : ∀ (et : ET) (σ : Env) (m : Mem), etP P L et σ m K → etP P L et σ m K'
  | .out outs, σ, m, h => hK _ _ h
  | .fail, _, _, h => h
  | .tt, _, _, _ => trivial
  | .q i ro args g k, σ, m, h => by
    simp only [etP] at h ⊢
    exact gP_mono (fun ⟨v, e, h⟩ => ⟨v, e, etP_mono hK k _ m h⟩) (etP_mono hK k _ m) h
  | .x i ro args g rc k, σ, m, h => by
    simp only [etP] at h ⊢
    exact gP_mono (xs_mono fun v m' ⟨h1, h2⟩ => ⟨h1, etP_mono hK k _ m' h2⟩) (etP_mono hK k _ m) h
  | .both a b, σ, m, h => ⟨etP_mono hK a σ m h.1, etP_mono hK b σ m h.2⟩
theorem wpN_mono {P : Program} : ∀ (c : NC) {Q Q' : Exit → Env → Mem → Prop} {E : Env} {m : Mem}, (∀ e L m, Q e L m → Q' e L m) → wpN P c Q E m → wpN P c Q' E m
  | .skip, _, _, _, _, hq, h => hq _ _ _ h
  | .reg et ins, _, _, _, _, hq, h => ⟨h.1, etP_mono (fun E m => hq .normal E m) et _ _ h.2⟩
  | .seq a b, Q, Q', _, _, hq, h => wpN_mono a (fun e L m h => by
      cases e with
      | normal => exact wpN_mono b hq h
      | _ => exact hq _ _ _ h) h
  | .cond x a b, _, _, _, _, hq, h => by
    obtain ⟨h1, t, h2, h3, h4⟩ := h
    exact ⟨h1, t, h2, fun e => wpN_mono a hq (h3 e), fun e => wpN_mono b hq (h4 e)⟩
  | .block id c, Q, Q', _, _, hq, h => wpN_mono c (fun e L m h => by
      cases e with
      | exit id' =>
        simp only [blockN] at h ⊢
        split
        · rename_i e; rw [if_pos e] at h; exact hq _ _ _ h
        · rename_i e; rw [if_neg e] at h; exact hq _ _ _ h
      | _ => exact hq _ _ _ h) h
  | .loop ks c, Q, Q', _, _, hq, h => by
    obtain ⟨h1, I, h2, h3⟩ := h
    refine ⟨h1, I, h2, fun n L m hI => wpN_mono c (fun e L m h => ?_) (h3 n L m hI)⟩
    cases e with
    | normal => exact h
    | _ => exact hq _ _ _ h
  | .exit _, _, _, _, _, hq, h => hq _ _ _ h
  | .ret, _, _, _, _, hq, h => hq _ _ _ h
/-- a piece of code that ends as usual, cut off -/
theorem seq_cut {P : Program} {m : Mem} {a b : NC} {Q : Exit → Env → Mem → Prop} {E : Env} (J : Env → Mem → Prop) (h1 : wpN P a (fun e L M => e = .normal ∧ J L M) E m) (h2 : ∀ L M, J L M → wpN P b Q L M) : wpN P (.seq a b) Q E m := by
  rw [wpN_seq]
  refine wpN_mono a (fun e L M h => ?_) h1
  obtain ⟨rfl, h⟩ := h
  exact h2 L M h
section
variable {P : Program} {m0 m : Mem} {S : List Nat} {G : List (Nat × Obj)}
theorem Hp.refl (m : Mem) (S : List Nat) (h : ∀ s ∈ S, m s ≠ none := by simp) : Hp m m S [] := ⟨trivial, Fr.refl _ _, by simp, by simp, h⟩
theorem Hp.step (H : Hp m0 m S G) {M : Mem} {T : List Nat} (f : Fr m M T) (hT : ∀ b ∈ T, b ∈ S) (hx : ∀ b ∈ T, M b ≠ none) : Hp m0 M S G :=
  ⟨Hs.of fun p hp => f.get (H.hs.mem p hp) (fun h => (H.nw p hp).2 (hT _ h)), H.fr.trans f fun x hx _ => hT x hx, H.nd, H.nw, fun s hs => by
    by_cases h : s ∈ T
    · exact hx s h
    · exact f.some (H.ex s hs) h⟩
theorem Hp.step0 (H : Hp m0 m S G) {M : Mem} (f : Fr m M []) : Hp m0 M S G := H.step f (by simp) (by simp)
theorem Hp.fresh (H : Hp m0 m S G) {b : Nat} (hb : m b = none) : (m0 b = none ∧ b ∉ S) ∧ ∀ p ∈ G, p.1 ≠ b := by
  have hS : b ∉ S := fun h => H.ex b h hb
  refine ⟨⟨?_, hS⟩, fun p hp e => ?_⟩
  · cases h : m0 b with
    | none => rfl
    | some o => rw [H.fr.get h hS] at hb; cases hb
  · have := H.hs.mem p hp
    rw [e, hb] at this; cases this
theorem Hp.grow (H : Hp m0 m S G) {b : Nat} {o : Obj} (hb : m b = none) : Hp m0 (m.set b o) S ((b, o) :: G) := by
  obtain ⟨h1, h2⟩ := H.fresh hb
  have f : Fr m (m.set b o) [] := Fr.new _ hb
  have H' := H.step0 f
  refine ⟨⟨set_self _ _, H'.hs⟩, H'.fr, ?_, ?_, H'.ex⟩
  · simp only [List.map_cons, List.nodup_cons]
    refine ⟨fun hm => ?_, H.nd⟩
    obtain ⟨p, hp, e⟩ := List.mem_map.1 hm
    exact h2 p hp e
  · intro p hp
    rcases List.mem_cons.1 hp with rfl | hp
    · exact h1
    · exact H.nw p hp
/-- a block of S is written -/
theorem Hp.wrS (H : Hp m0 m S G) {b : Nat} (x : Obj) (hS : b ∈ S) : Hp m0 (m.set b x) S G :=
  H.step (T := [b]) (Fr.set (by simp)) (by simpa using hS) (by simp [Mem.set])
theorem Hp.nw0 {b : Nat} {o : Obj} (H : Hp m0 m S ((b, o) :: G)) : m0 b = none ∧ b ∉ S := H.nw (b, o) (List.mem_cons_self ..)
theorem Hp.nw1 {p : Nat × Obj} {b : Nat} {o : Obj} (H : Hp m0 m S (p :: (b, o) :: G)) : m0 b = none ∧ b ∉ S := H.nw (b, o) (List.mem_cons_of_mem _ (List.mem_cons_self ..))
theorem Hp.nw2 {p q : Nat × Obj} {b : Nat} {o : Obj} (H : Hp m0 m S (p :: q :: (b, o) :: G)) : m0 b = none ∧ b ∉ S := H.nw (b, o) (List.mem_cons_of_mem _ (List.mem_cons_of_mem _ (List.mem_cons_self ..)))
theorem Hp.drop1 {p : Nat × Obj} (H : Hp m0 m S (p :: G)) : Hp m0 m S G :=
  ⟨H.hs.2, H.fr, (List.nodup_cons.1 H.nd).2, fun q hq => H.nw q (List.mem_cons_of_mem _ hq), H.ex⟩
theorem Hp.nil (H : Hp m0 m S G) : Hp m0 m S [] := ⟨trivial, H.fr, by simp, by simp, H.ex⟩
theorem Hp.more (H : Hp m0 m S G) {T : List Nat} (h : ∀ s ∈ S, s ∈ T) (hx : ∀ s ∈ T, m s ≠ none) (hg : ∀ p ∈ G, p.1 ∉ T) : Hp m0 m T G := ⟨H.hs, H.fr.sub h, H.nd, fun p hp => ⟨(H.nw p hp).1, hg p hp⟩, hx⟩
theorem Hp.at {i : Nat} {p : Nat × Obj} (H : Hp m0 m S G) (hi : G[i]? = some p) : m p.1 = some p.2 := H.hs.mem p (List.mem_of_getElem? hi)
theorem Hp.put (H : Hp m0 m S G) {i : Nat} {b : Nat} {o x : Obj} (hi : G[i]? = some (b, o)) : Hp m0 (m.set b x) S (G.set i (b, x)) ∧ Fr m (m.set b x) [b] := by
  have hin := List.mem_of_getElem? hi
  have f : Fr m (m.set b x) [b] := Fr.set (by simp)
  refine ⟨⟨Hs.of fun p hp => ?_, H.fr.trans f ?_, ?_, ?_, fun s hs => ?_⟩, f⟩
  · rcases List.mem_or_eq_of_mem_set hp with h | rfl
    · by_cases e : p.1 = b
      · -- the one of this block stands at i alone
        obtain ⟨j, hj⟩ := List.mem_iff_getElem?.1 hp
        rw [List.getElem?_set] at hj
        split at hj
        · split at hj
          · cases hj; exact set_self _ _
          · cases hj
        · rename_i hne
          exfalso
          have h1 : (G.map Prod.fst)[j]? = some b := by rw [List.getElem?_map, hj]; simp [e]
          have h2 : (G.map Prod.fst)[i]? = some b := by rw [List.getElem?_map, hi]; rfl
          have hlt : i < (G.map Prod.fst).length := (List.getElem?_eq_some_iff.1 h2).1
          exact hne ((List.getElem?_inj hlt H.nd).1 (h2.trans h1.symm))
      · rw [set_ne _ _ _ e]; exact H.hs.mem p h
    · exact set_self _ _
  · intro y hy hy0
    simp only [List.mem_singleton] at hy; subst hy
    exact absurd (H.nw _ hin).1 hy0
  · have : (G.set i (b, x)).map Prod.fst = G.map Prod.fst := by
      rw [List.map_set]
      apply List.ext_getElem?
      intro j
      rw [List.getElem?_set]
      split
      · rename_i e; subst e
        rw [List.getElem?_map, hi]
        simp only [Option.map_some]
        rw [if_pos]
        rw [List.length_map]; exact (List.getElem?_eq_some_iff.1 hi).1
      · rfl
    rw [this]; exact H.nd
  · intro p hp
    rcases List.mem_or_eq_of_mem_set hp with h | rfl
    · exact H.nw p h
    · exact H.nw (b, o) hin
  · by_cases e : s = b
    · subst e; rw [set_self]; exact Option.some_ne_none _
    · rw [set_ne _ _ _ e]; exact H.ex s hs

theorem new_H {o : Obj} {J : Nat → Mem → Prop} {l : Lk J} {l' : Lk m} (H : Hp m0 m S G) (k : ∀ b M, m b = none → Fr m M [] → Hp m0 M S ((b, o) :: G) → J b M) : newO m o J l l' :=
  fun b hb => k b _ hb (Fr.new _ hb) (H.grow hb)
theorem wr_H {b : Nat} {x o : Obj} {J : Mem → Prop} {l : Lk J} {l' : Lk m} (i : Nat) (H : Hp m0 m S G) (hi : G[i]? = some (b, o)) (k : ∀ M, Fr m M [b] → Hp m0 M S (G.set i (b, x)) → J M) : wrO m b x J l l' :=
  k _ (H.put hi).2 (H.put hi).1
theorem wr0 {b : Nat} {x o : Obj} {J : Mem → Prop} {l : Lk J} {l' : Lk m} (H : Hp m0 m S ((b, o) :: G)) (k : ∀ M, Fr m M [b] → Hp m0 M S ((b, x) :: G) → J M) : wrO m b x J l l' := wr_H 0 H rfl k
theorem wr1 {b : Nat} {p1 : Nat × Obj} {x o : Obj} {J : Mem → Prop} {l : Lk J} {l' : Lk m} (H : Hp m0 m S (p1 :: (b, o) :: G)) (k : ∀ M, Fr m M [b] → Hp m0 M S (p1 :: (b, x) :: G) → J M) : wrO m b x J l l' := wr_H 1 H rfl k
theorem wr2 {b : Nat} {p1 p2 : Nat × Obj} {x o : Obj} {J : Mem → Prop} {l : Lk J} {l' : Lk m} (H : Hp m0 m S (p1 :: p2 :: (b, o) :: G)) (k : ∀ M, Fr m M [b] → Hp m0 M S (p1 :: p2 :: (b, x) :: G) → J M) : wrO m b x J l l' := wr_H 2 H rfl k
theorem wr3 {b : Nat} {p1 p2 p3 : Nat × Obj} {x o : Obj} {J : Mem → Prop} {l : Lk J} {l' : Lk m} (H : Hp m0 m S (p1 :: p2 :: p3 :: (b, o) :: G)) (k : ∀ M, Fr m M [b] → Hp m0 M S (p1 :: p2 :: p3 :: (b, x) :: G) → J M) : wrO m b x J l l' := wr_H 3 H rfl k
theorem wr4 {b : Nat} {p1 p2 p3 p4 : Nat × Obj} {x o : Obj} {J : Mem → Prop} {l : Lk J} {l' : Lk m} (H : Hp m0 m S (p1 :: p2 :: p3 :: p4 :: (b, o) :: G)) (k : ∀ M, Fr m M [b] → Hp m0 M S (p1 :: p2 :: p3 :: p4 :: (b, x) :: G) → J M) : wrO m b x J l l' := wr_H 4 H rfl k
/-- several cells of an own block are written -/
theorem st_H {b off : Nat} {c vs : List Value} {T : TypeId} {J : Mem → Prop} {l : Lk J} {l' : Lk m} (i : Nat) (H : Hp m0 m S G) (hi : G[i]? = some (b, .cells c.toArray T (0, 0))) (hl : off + vs.length ≤ c.length) (h1 : vs.all Value.oneCell' = true)
    (k : ∀ M, Fr m M [b] → Hp m0 M S (G.set i (b, .cells (c.take off ++ vs ++ c.drop (off + vs.length)).toArray T (0, 0))) → J M) : stQ m ⟨b, off, none⟩ 0 vs J l l' := by
  have h := stCells_row (t := T) (b := b) (o := off) vs 0 m c (H.at hi) (by simpa using hl) (fun v hv => List.all_eq_true.1 h1 v hv)
  refine ⟨_, h, k _ (H.put hi).2 ?_⟩
  have := (H.put (x := .cells (c.take off ++ vs ++ c.drop (off + vs.length)).toArray T (0, 0)) hi).1
  simpa using this
theorem st0 {b off : Nat} {c vs : List Value} {T : TypeId} {J : Mem → Prop} {l : Lk J} {l' : Lk m} (H : Hp m0 m S ((b, .cells c.toArray T (0, 0)) :: G)) (hl : off + vs.length ≤ c.length) (h1 : vs.all Value.oneCell' = true)
    (k : ∀ M, Fr m M [b] → Hp m0 M S ((b, .cells (c.take off ++ vs ++ c.drop (off + vs.length)).toArray T (0, 0)) :: G) → J M) : stQ m ⟨b, off, none⟩ 0 vs J l l' := st_H 0 H rfl hl h1 k
theorem st1 {b off : Nat} {p1 : Nat × Obj} {c vs : List Value} {T : TypeId} {J : Mem → Prop} {l : Lk J} {l' : Lk m} (H : Hp m0 m S (p1 :: (b, .cells c.toArray T (0, 0)) :: G)) (hl : off + vs.length ≤ c.length) (h1 : vs.all Value.oneCell' = true)
    (k : ∀ M, Fr m M [b] → Hp m0 M S (p1 :: (b, .cells (c.take off ++ vs ++ c.drop (off + vs.length)).toArray T (0, 0)) :: G) → J M) : stQ m ⟨b, off, none⟩ 0 vs J l l' := st_H 1 H rfl hl h1 k
/-- the whole of an own block is written -/
theorem stw0 {b : Nat} {c vs : List Value} {T : TypeId} {J : Mem → Prop} {l : Lk J} {l' : Lk m} (H : Hp m0 m S ((b, .cells c.toArray T (0, 0)) :: G)) (hl : vs.length = c.length) (h1 : vs.all Value.oneCell' = true)
    (k : ∀ M, Fr m M [b] → Hp m0 M S ((b, .cells vs.toArray T (0, 0)) :: G) → J M) : stQ m ⟨b, 0, none⟩ 0 vs J l l' :=
  st0 H (by omega) h1 fun M f H' => k M f (by
    have : List.drop (0 + vs.length) c = [] := List.drop_eq_nil_iff.2 (by omega)
    rw [this] at H'; simpa using H')
theorem stw1 {b : Nat} {p1 : Nat × Obj} {c vs : List Value} {T : TypeId} {J : Mem → Prop} {l : Lk J} {l' : Lk m} (H : Hp m0 m S (p1 :: (b, .cells c.toArray T (0, 0)) :: G)) (hl : vs.length = c.length) (h1 : vs.all Value.oneCell' = true)
    (k : ∀ M, Fr m M [b] → Hp m0 M S (p1 :: (b, .cells vs.toArray T (0, 0)) :: G) → J M) : stQ m ⟨b, 0, none⟩ 0 vs J l l' :=
  st1 H (by omega) h1 fun M f H' => k M f (by
    have : List.drop (0 + vs.length) c = [] := List.drop_eq_nil_iff.2 (by omega)
    rw [this] at H'; simpa using H')
/-- a callee that leaves all that was there, and whose answer is known -/
theorem call_H {f : Nat} {args : List Value} {V : Value} {K : Value → Mem → Prop} {l : Lk K} (H : Hp m0 m S G) (h : MC P f args m fun v M => v = V ∧ Fr m M []) (k : ∀ M, Fr m M [] → Hp m0 M S G → K V M) : callP P f args m K l :=
  call_with h fun v M ⟨e, g⟩ => by subst e; exact k M g (H.step0 g)
theorem call_R {f : Nat} {args : List Value} {R : Value → Mem → Prop} {K : Value → Mem → Prop} {l : Lk K} (H : Hp m0 m S G) (h : MC P f args m fun v M => R v M ∧ Fr m M []) (k : ∀ v M, R v M → Fr m M [] → Hp m0 M S G → K v M) : callP P f args m K l :=
  call_with h fun v M ⟨e, g⟩ => k v M e g (H.step0 g)
theorem call_T {f : Nat} {args : List Value} {R : Value → Mem → Prop} {K : Value → Mem → Prop} {l : Lk K} {T : List Nat} (H : Hp m0 m S G) (h : MC P f args m fun v M => R v M ∧ Fr m M T) (hT : ∀ b ∈ T, b ∈ S) (hx : ∀ v M, R v M → ∀ b ∈ T, M b ≠ none)
    (k : ∀ v M, R v M → Fr m M T → Hp m0 M S G → K v M) : callP P f args m K l :=
  call_with h fun v M ⟨e, g⟩ => k v M e g (H.step g hT (hx v M e))
theorem wrS {b : Nat} {x : Obj} {J : Mem → Prop} {l : Lk J} {l' : Lk m} (H : Hp m0 m S G) (hS : b ∈ S) (k : ∀ M, M b = some x → Fr m M [b] → Hp m0 M S G → J M) : wrO m b x J l l' :=
  k _ (set_self _ _) (Fr.set (by simp)) (H.wrS x hS)
theorem gQ_dt {p : Prop} [Decidable p] {y n : Prop} {l : Lk y} {l' : Lk n} (h : p → y) (h' : ¬ p → n) : gQ (some (decide p)) true y n l l' := gQ_split (fun e => h (of_decide_eq_true e)) (fun e => h' (of_decide_eq_false e))
theorem gQ_df {p : Prop} [Decidable p] {y n : Prop} {l : Lk y} {l' : Lk n} (h : ¬ p → y) (h' : p → n) : gQ (some (decide p)) false y n l l' := gQ_split (fun e => h (of_decide_eq_false e)) (fun e => h' (of_decide_eq_true e))

/-! the end of a function with several values -/
def vlQ (E : Env) (m : Mem) (rvs : List RV) (acc : List Value) (R : Value → Mem → Prop) (_ : Lk R) : Prop := ∃ vs, valsOf E m rvs = some vs ∧ R (tupleV (acc ++ vs)) m
theorem vlQ_nil {E : Env} (acc : List Value) (R : Value → Mem → Prop) (l : Lk R) : vlQ E m [] acc R l = post R (tupleV acc) m ⟨⟩ := by simp [vlQ, valsOf, post]
theorem vlQ_slot {E : Env} (t : Nat) (r : List RV) (acc : List Value) (R : Value → Mem → Prop) (l : Lk R) : vlQ E m (.slot t :: r) acc R l = vlQ E m r (acc ++ [E.get t]) R ⟨⟩ := by
  apply propext
  simp only [vlQ, valsOf, RV.val, Option.bind_some]
  constructor
  · rintro ⟨vs, h, hr⟩
    obtain ⟨u, hu, rfl⟩ := Option.map_eq_some_iff.1 h
    exact ⟨u, hu, by simpa using hr⟩
  · rintro ⟨vs, h, hr⟩
    exact ⟨E.get t :: vs, by rw [h]; rfl, by simpa using hr⟩
theorem vlQ_cells {E : Env} (t n : Nat) (r : List RV) (acc : List Value) (R : Value → Mem → Prop) (l : Lk R) : vlQ E m (.cells t n :: r) acc R l = bO (rd (.lda n) [E.get t] m) (fun v => vlQ E m r (acc ++ [v]) R ⟨⟩) ⟨⟩ := by
  apply propext
  simp only [vlQ, valsOf, RV.val, bO, bindO]
  constructor
  · rintro ⟨vs, h, hr⟩
    obtain ⟨v, hv, h⟩ := Option.bind_eq_some_iff.1 h
    obtain ⟨u, hu, rfl⟩ := Option.map_eq_some_iff.1 h
    exact ⟨v, hv, u, hu, by simpa using hr⟩
  · rintro ⟨v, hv, vs, h, hr⟩
    exact ⟨v :: vs, by rw [hv, Option.bind_some, h]; rfl, by simpa using hr⟩
theorem doneF_3 {E : Env} (a b c : RV) (rvs : List RV) (R : Value → Mem → Prop) (l : Lk R) (l' : Lk E) : doneF (a :: b :: c :: rvs) R E m l l' = rcQ (hasAll E ((a :: b :: c :: rvs).map RV.slotOf) = true) (vlQ E m (a :: b :: c :: rvs) [] R ⟨⟩) ⟨⟩ := rfl
theorem doneF_2c {E : Env} (t n : Nat) (c : RV) (R : Value → Mem → Prop) (l : Lk R) (l' : Lk E) : doneF [.cells t n, c] R E m l l' = rcQ (hasAll E ([.cells t n, c].map RV.slotOf) = true) (vlQ E m [.cells t n, c] [] R ⟨⟩) ⟨⟩ := rfl
theorem doneF_2d {E : Env} (t n : Nat) (c : Nat) (R : Value → Mem → Prop) (l : Lk R) (l' : Lk E) : doneF [.slot c, .cells t n] R E m l l' = rcQ (hasAll E ([.slot c, .cells t n].map RV.slotOf) = true) (vlQ E m [.slot c, .cells t n] [] R ⟨⟩) ⟨⟩ := rfl
theorem slotOf_slot (t : Nat) : (RV.slot t).slotOf = t := rfl
theorem slotOf_cells (t n : Nat) : (RV.cells t n).slotOf = t := rfl
theorem tuple_1 (v : Value) : tupleV [v] = v := rfl
theorem tuple_2 (a b : Value) (r : List Value) : tupleV (a :: b :: r) = .tuple (a :: b :: r).toArray := rfl
theorem rd_lda_o {b o n : Nat} (h : 0 < n) : rd (.lda n) [.pointer (some ⟨b, o, none⟩)] m = ldaO (m b) o n := by
  rw [rd_lda]
  cases hb : m b with
  | none => cases n with
    | zero => omega
    | succ n => simp [ldCells, cell_mk, add_mk, hb, cellAt, ldaO]
  | some x => cases x with
    | cells c T fr =>
      simp only [ldaO]
      obtain ⟨c⟩ := c
      split
      · rename_i hle
        rw [ldCells_row (l := c) hb n 0 o (by simpa using hle)]
        simp
      · rename_i hle
        have : ∀ n i, ¬ (o + i + n ≤ c.length) → ldCells m ⟨b, o, none⟩ i n = none ∨ n = 0 := by
          intro n
          induction n with
          | zero => intro i _; exact .inr rfl
          | succ n ih =>
            intro i hi
            left
            rw [ldCells, add_mk, cell_mk, hb, cellAt_cells]
            by_cases hlt : o + i < c.length
            · simp only [List.getElem?_toArray, List.getElem?_eq_getElem hlt, Option.bind_some]
              rcases ih (i + 1) (by omega) with h1 | h1
              · rw [h1]; rfl
              · omega
            · simp [Nat.le_of_not_lt hlt]
        rcases this n 0 (by simpa using hle) with h1 | h1
        · rw [h1]; rfl
        · omega
    | _ => cases n with
      | zero => omega
      | succ n => simp [ldCells, cell_mk, add_mk, hb, cellAt, ldaO]
theorem ldaO_cells {l : List Value} {T : TypeId} {fr : Nat × Nat} {i n : Nat} (h : i + n ≤ l.length) : ldaO (some (.cells l.toArray T fr)) i n = some (.agg ((l.drop i).take n).toArray) := by
  simp only [ldaO, List.size_toArray]; rw [if_pos h]
theorem ldaO_if {l : List Value} {T : TypeId} {fr : Nat × Nat} {i n : Nat} : ldaO (some (.cells l.toArray T fr)) i n = if i + n ≤ l.length then some (.agg ((l.drop i).take n).toArray) else none := by
  simp only [ldaO, List.size_toArray]
theorem cells_agg (x : Array Value) : (Value.agg x).cells = x := rfl
theorem rd_pick_t (a b : Value) : rd .pick [.bool true, a, b] m = some a := rfl
theorem rd_pick_f (a b : Value) : rd .pick [.bool false, a, b] m = some b := rfl
theorem rd_pick_and (c x : Bool) : rd .pick [.bool c, .bool x, .bool false] m = some (.bool (c && x)) := by cases c <;> rfl
theorem rd_pick_or (c x : Bool) : rd .pick [.bool c, .bool true, .bool x] m = some (.bool (c || x)) := by cases c <;> rfl
theorem leafEq_ii (a b : Int) (ks : List LK) (xs ys : List Value) : leafEq (.i .i64 :: ks) (.int .i64 a :: xs) (.int .i64 b :: ys) = (leafEq ks xs ys).map fun r => decide (a = b) && r := by
  rw [leafEq_cons, le1_i, Option.bind_some]
theorem gQ_nt {b : Bool} {y n : Prop} {l : Lk y} {l' : Lk n} : gQ (some (!b)) true y n l l' = gQ (some b) false y n l l' := by cases b <;> simp [gQ]
theorem gQ_nf {b : Bool} {y n : Prop} {l : Lk y} {l' : Lk n} : gQ (some (!b)) false y n l l' = gQ (some b) true y n l l' := by cases b <;> simp [gQ]
theorem condB_not {b : Bool} {y n : Prop} {l : Lk y} {l' : Lk n} : condB (!b) y n l l' = condB b n y l' l := by cases b <;> simp [condB, bP]
theorem decide_ne {α : Type} (a b : α) [Decidable (a = b)] [Decidable (a ≠ b)] : decide (a ≠ b) = !decide (a = b) := by by_cases h : a = b <;> simp [h]
attribute [go_sem] gQ_nt gQ_nf condB_not decide_ne Bool.not_not List.toList_toArray
attribute [go_sem] vlQ_nil vlQ_slot vlQ_cells doneF_3 doneF_2c doneF_2d slotOf_slot slotOf_cells tuple_1 tuple_2 rd_lda_o ldaO_if Nat.le_refl cells_agg rd_pick_t rd_pick_f rd_pick_and rd_pick_or
attribute [go_sem] List.map_cons List.map_nil List.cons_append List.nil_append List.append_nil List.size_toArray List.length_append List.length_nil Bool.not_true Bool.not_false Bool.false_eq_true decide_true decide_false not_true not_false_eq_true if_true if_false Bool.or_false Bool.or_true Bool.true_or Bool.false_or Bool.and_false Bool.false_and
theorem Fr.less {a b : Mem} {S T : List Nat} (h : Fr a b S) (hs : ∀ x ∈ S, a x ≠ none → x ∈ T) : Fr a b T := fun x hx hT => h x hx (fun hS => hT (hs x hS hx))
theorem fresh_fr {m m' : Mem} (f : Fr m m' []) {b : Nat} (h : m' b = none) : m b = none := by
  cases hb : m b with
  | none => rfl
  | some o => rw [f.get0 hb] at h; cases h
/-- a map is gone through: its iterator counts among what may turn -/
theorem rng_H {α : Type} [DecidableEq α] {enc : α → Value} {r : Nat} {l : List (α × Value)} {K : Value → Mem → Prop} {lk : Lk K} (H : Hp m0 m S G) (h : MapIs enc m r l)
    (k : ∀ it N, m it = none → IterIs enc N it r l [] → Fr m N [] → Hp m0 N (it :: S) G → m0 it = none → it ∉ S → it ≠ r → K (.pointer (some ⟨it, 0, none⟩)) N) : xsP P .rng [.map (some r)] m K lk := by
  refine rng_own h fun it N hit hI f => ?_
  obtain ⟨⟨h1, h2⟩, h3⟩ := H.fresh hit
  refine k it N hit hI f ((H.step0 f).more (fun s hs => List.mem_cons_of_mem _ hs) ?_ ?_) h1 h2 (by rintro rfl; exact h.there hit)
  · intro s hs
    rcases List.mem_cons.1 hs with rfl | hs
    · exact hI.there
    · exact (H.step0 f).ex s hs
  · intro p hp hm
    rcases List.mem_cons.1 hm with e | hm
    · exact h3 p hp e
    · exact (H.nw p hp).2 hm
theorem nxt_H {α : Type} [DecidableEq α] {ag : Bool} {ks : List LK} {enc : α → Value} (KE : KeyEnc ag ks enc) {b r : Nat} {l : List (α × Value)} {done : List α} {K : Value → Mem → Prop} {lk : Lk K} (h : IterIs enc m b r l done) (H : Hp m0 m S G) (hS : b ∈ S)
    (hend : (keysOf l).Perm done → K (.tuple #[.bool false]) m)
    (hnext : ∀ k v M, (k, v) ∈ l → k ∉ done → (done ++ [k]).length ≤ l.length → IterIs enc M b r l (done ++ [k]) → rd .ent [.pointer (some ⟨b, 0, none⟩)] M = some (.tuple #[enc k, v]) → Fr m M [b] → Hp m0 M S G → K (.tuple #[.bool true, enc k, v]) M) :
    xsP P .nxt [.pointer (some ⟨b, 0, none⟩)] m K lk := by
  refine nxt_own KE h hend fun k v M hkv hk hI hent f hn => hnext k v M hkv hk ?_ hI hent f (H.step f (by simpa using hS) (by simpa using hI.there))
  obtain ⟨es, c, seen, _, hh, _, hd, hsub, _⟩ := hI
  have := hd.length_le_of_subset hsub
  simpa [keysOf] using this
theorem IterIs.le {α : Type} [DecidableEq α] {enc : α → Value} {b r : Nat} {l : List (α × Value)} {done : List α} (h : IterIs enc m b r l done) : done.length ≤ l.length := by
  obtain ⟨es, c, seen, _, hh, _, hd, hsub, _⟩ := h
  have := hd.length_le_of_subset hsub
  simpa [keysOf] using this
end
end Go.Fw
