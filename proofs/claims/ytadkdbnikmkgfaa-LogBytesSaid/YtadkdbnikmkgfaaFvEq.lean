import Derived.Test.YtadkdbnikmkgfaaFvBase
import Derived.ChangeKeysEq
import Derived.Laws.StructEq
/-! Structs and arrays held against each other. -/
namespace Go.Fw

def plainT (P : Program) (t : TypeId) : Bool := match P.underlying t with | some (.struct _) | some (.array _ _) | none => false | _ => true
def aggT (P : Program) (t : TypeId) : Bool := match P.underlying t with | some (.struct _) | some (.array _ _) => true | _ => false
section
variable {P : Program} {w : World}
theorem run_underlying' {t : TypeId} {d : TypeDesc} (h : P.underlying t = some d) : (underlying t).run P w = .ok d w := run_underlying h w
theorem run_typeInfo' {t : TypeId} {i : TypeInfo} (h : P.info? t = some i) : (typeInfo t).run P w = .ok i w := by simp [typeInfo, h]
theorem run_sizeOf' {t : TypeId} {i : TypeInfo} (h : P.info? t = some i) : (sizeOf t).run P w = .ok i.size w := by simp [sizeOf, run_typeInfo' h]
theorem isAgg_plain {t : TypeId} (h : plainT P t = true) : (isAgg t).run P w = .ok false w := by
  unfold plainT at h
  cases hu : P.underlying t with
  | none => simp [hu] at h
  | some d => unfold isAgg; cases d <;> simp_all [run_underlying' hu]
theorem isAgg_agg {t : TypeId} (h : aggT P t = true) : (isAgg t).run P w = .ok true w := by
  unfold aggT at h
  cases hu : P.underlying t with
  | none => simp [hu] at h
  | some d => unfold isAgg; cases d <;> simp_all [run_underlying' hu]
theorem run_part1 {t : TypeId} {cs : Array Value} {off : Nat} {v : Value} (ht : plainT P t = true) (h : cs[off]? = some v) : (part t cs off).run P w = .ok v w := by
  simp [part, isAgg_plain ht, h]
theorem run_parta {t : TypeId} {cs : Array Value} {off : Nat} {i : TypeInfo} (ht : aggT P t = true) (hi : P.info? t = some i) :
    (part t cs off).run P w = .ok (.agg (cs.extract off (off + i.size))) w := by
  simp [part, isAgg_agg ht, run_sizeOf' hi]
end
def fieldsLeaves (g : TypeId → Option (List LK)) : List Field → Nat → Option (List LK)
  | [], _ => some []
  | f :: fs, off => if f.name ≠ "_" ∧ f.offset = off then (g f.type).bind fun l => (fieldsLeaves g fs (off + l.length)).map (l ++ ·) else none
def sized (P : Program) (t : TypeId) (l : List LK) : Option (List LK) := if (P.info? t).map (·.size) = some l.length then some l else none
def leavesOf (P : Program) : Nat → TypeId → Option (List LK)
  | 0, _ => none
  | d + 1, t =>
    match P.underlying t with
    | some .bool => sized P t [.b]
    | some (.int k) => sized P t [.i k]
    | some .string => sized P t [.s]
    | some (.struct fs) => if P.stoodInHeld t then none else (fieldsLeaves (leavesOf P d) fs.toList 0).bind (sized P t)
    | some (.array n e) => (leavesOf P d e).bind fun l => sized P t (List.replicate n l).flatten
    | _ => none

theorem sized_inv {P : Program} {t : TypeId} {l l' : List LK} (h : sized P t l = some l') : l' = l ∧ ∃ i, P.info? t = some i ∧ i.size = l.length := by
  unfold sized at h
  split at h
  · rename_i h1
    obtain ⟨i, hi, e⟩ := Option.map_eq_some_iff.1 h1
    exact ⟨(Option.some.inj h).symm, i, hi, e⟩
  · cases h
theorem leavesOf_size {P : Program} {d : Nat} {t : TypeId} {l : List LK} (h : leavesOf P d t = some l) : ∃ i, P.info? t = some i ∧ i.size = l.length := by
  cases d with
  | zero => cases h
  | succ d =>
    simp only [leavesOf] at h
    split at h
    · obtain ⟨rfl, hh⟩ := sized_inv h; exact hh
    · obtain ⟨rfl, hh⟩ := sized_inv h; exact hh
    · obtain ⟨rfl, hh⟩ := sized_inv h; exact hh
    · split at h
      · cases h
      · obtain ⟨l', _, h⟩ := Option.bind_eq_some_iff.1 h
        obtain ⟨rfl, hh⟩ := sized_inv h; exact hh
    · obtain ⟨l', _, h⟩ := Option.bind_eq_some_iff.1 h
      obtain ⟨rfl, hh⟩ := sized_inv h; exact hh
    · cases h

theorem leafEq_append : ∀ {k1 k2 : List LK} {l l' : List Value} {b : Bool}, leafEq (k1 ++ k2) l l' = some b →
    ∃ b1 b2, leafEq k1 (l.take k1.length) (l'.take k1.length) = some b1 ∧ leafEq k2 (l.drop k1.length) (l'.drop k1.length) = some b2 ∧ b = (b1 && b2)
  | [], k2, l, l', b, h => ⟨true, b, by simp [leafEq], by simpa using h, by simp⟩
  | k :: k1, k2, x :: l, y :: l', b, h => by
    simp only [List.cons_append, leafEq] at h
    obtain ⟨b0, h0, h⟩ := Option.bind_eq_some_iff.1 h
    obtain ⟨b', h', rfl⟩ := Option.map_eq_some_iff.1 h
    obtain ⟨b1, b2, h1, h2, rfl⟩ := leafEq_append h'
    exact ⟨b0 && b1, b2, by simp [leafEq, h0, h1], by simpa using h2, by rw [Bool.and_assoc]⟩
  | k :: k1, k2, [], l', b, h => by simp [leafEq] at h
  | k :: k1, k2, x :: l, [], b, h => by simp [leafEq] at h
theorem leafEq_len : ∀ {k : List LK} {l l' : List Value} {b : Bool}, leafEq k l l' = some b → l.length = k.length ∧ l'.length = k.length
  | [], [], [], _, _ => ⟨rfl, rfl⟩
  | k :: ks, x :: l, y :: l', b, h => by
    simp only [leafEq] at h
    obtain ⟨b0, _, h⟩ := Option.bind_eq_some_iff.1 h
    obtain ⟨b', h', _⟩ := Option.map_eq_some_iff.1 h
    have := leafEq_len h'
    simp [this.1, this.2]
  | [], x :: l, _, _, h => by simp [leafEq] at h
  | [], [], y :: l', _, h => by simp [leafEq] at h
  | k :: ks, [], _, _, h => by simp [leafEq] at h
  | k :: ks, x :: l, [], _, h => by simp [leafEq] at h

section
variable {P : Program} {w : World}

/-- what is shown of a type -/
def EqOk (P : Program) (d : Nat) (t : TypeId) (ks : List LK) : Prop :=
  ∀ (w : World) (x y : Value) (b : Bool), (aggT P t = true → ∃ xs ys, x = .agg xs ∧ y = .agg ys) → (plainT P t = true → ∃ k, ks = [k] ∧ le1 k x y = some b) → leafEq ks (vcl x) (vcl y) = some b → (Op.equalIn d t x y).run P w = .ok b w

theorem ext_list (xs : Array Value) (off n : Nat) : (xs.extract off (off + n)).toList = (xs.toList.drop off).take n := by
  rw [Array.toList_extract]; simp [List.extract]

theorem leaves_kind {d : Nat} {e : TypeId} {ks : List LK} (h : leavesOf P d e = some ks) : (plainT P e = true ∧ aggT P e = false ∧ ∃ k, ks = [k]) ∨ (plainT P e = false ∧ aggT P e = true) := by
  cases d with
  | zero => cases h
  | succ d =>
    simp only [leavesOf] at h
    unfold plainT aggT
    split at h
    · rename_i hu; obtain ⟨rfl, _⟩ := sized_inv h; exact .inl ⟨by rw [hu], by rw [hu], _, rfl⟩
    · rename_i hu; obtain ⟨rfl, _⟩ := sized_inv h; exact .inl ⟨by rw [hu], by rw [hu], _, rfl⟩
    · rename_i hu; obtain ⟨rfl, _⟩ := sized_inv h; exact .inl ⟨by rw [hu], by rw [hu], _, rfl⟩
    · rename_i hu; exact .inr ⟨by rw [hu], by rw [hu]⟩
    · rename_i hu; exact .inr ⟨by rw [hu], by rw [hu]⟩
    · cases h

theorem step_ok {d : Nat} {e : TypeId} {ks : List LK} (hl : leavesOf P d e = some ks) (ih : EqOk P d e ks) {off : Nat} {xs ys : Array Value} {b : Bool}
    (h : leafEq ks ((xs.toList.drop off).take ks.length) ((ys.toList.drop off).take ks.length) = some b) :
    ∃ x y, (part e xs off).run P w = .ok x w ∧ (part e ys off).run P w = .ok y w ∧ (Op.equalIn d e x y).run P w = .ok b w := by
  rcases leaves_kind hl with ⟨hp, ha, k, rfl⟩ | ⟨hp, ha⟩
  · have hlen := leafEq_len h
    have get : ∀ zs : Array Value, ((zs.toList.drop off).take [k].length).length = [k].length → ∃ z, zs[off]? = some z ∧ (zs.toList.drop off).take [k].length = [z] := fun zs hz => by
      simp only [List.length_take, List.length_drop, Array.length_toList, List.length_cons, List.length_nil, Nat.zero_add] at hz
      have hlt : off < zs.size := by omega
      refine ⟨zs[off], Array.getElem?_eq_getElem hlt, ?_⟩
      rw [List.drop_eq_getElem_cons (by simpa using hlt)]
      simp
    obtain ⟨x, hx, ex⟩ := get xs hlen.1
    obtain ⟨y, hy, ey⟩ := get ys hlen.2
    rw [ex, ey] at h
    have h1 : le1 k x y = some b := by
      simp only [leafEq] at h
      obtain ⟨b0, h0, h⟩ := Option.bind_eq_some_iff.1 h
      simp only [Option.map_some, Option.some.injEq, Bool.and_true] at h
      rw [h0, h]
    refine ⟨x, y, run_part1 hp hx, run_part1 hp hy, ih w x y b (fun h => by rw [ha] at h; cases h) (fun _ => ⟨k, rfl, h1⟩) ?_⟩
    have hv : vcl x = [x] ∧ vcl y = [y] := by
      unfold le1 at h1
      split at h1 <;> first | exact ⟨rfl, rfl⟩ | cases h1
    rw [hv.1, hv.2]; exact h
  · obtain ⟨i, hi, hs⟩ := leavesOf_size hl
    refine ⟨_, _, run_parta ha hi, run_parta ha hi, ih w _ _ b (fun _ => ⟨_, _, rfl, rfl⟩) (fun h => by rw [hp] at h; cases h) ?_⟩
    simp only [vcl, ext_list, hs]
    exact h

theorem fields_ok {d : Nat} (ih : ∀ e ks, leavesOf P d e = some ks → EqOk P d e ks) (xs ys : Array Value) : ∀ (fs : List Field) (off : Nat) (ks : List LK) (b : Bool), fieldsLeaves (leavesOf P d) fs off = some ks →
    leafEq ks (xs.toList.drop off) (ys.toList.drop off) = some b → (Op.eqFields d xs ys fs).run P w = .ok b w
  | [], off, ks, b, h, hb => by
    simp only [fieldsLeaves, Option.some.injEq] at h
    subst h
    have : b = true := by
      unfold leafEq at hb
      split at hb <;> simp_all
    subst this
    simp [Op.eqFields]
  | f :: fs, off, ks, b, h, hb => by
    simp only [fieldsLeaves] at h
    split at h
    case isFalse => cases h
    rename_i hn
    obtain ⟨l, hl, h⟩ := Option.bind_eq_some_iff.1 h
    obtain ⟨r, hr, rfl⟩ := Option.map_eq_some_iff.1 h
    obtain ⟨b1, b2, h1, h2, rfl⟩ := leafEq_append hb
    obtain ⟨x, y, p1, p2, p3⟩ := step_ok (w := w) hl (ih _ _ hl) h1
    rw [List.drop_drop, List.drop_drop] at h2
    have := fields_ok ih xs ys fs (off + l.length) r b2 hr h2
    simp only [Op.eqFields, hn.1, ne_eq, not_false_eq_true, if_true, hn.2, Sem.run_bind, p1, p2, p3, Result.andThen_ok]
    cases b1
    · simp
    · simpa using this

theorem items_ok {d : Nat} {e : TypeId} {l : List LK} (hl : leavesOf P d e = some l) (ih : EqOk P d e l) (xs ys : Array Value) : ∀ (m k : Nat) (b : Bool),
    leafEq (List.replicate m l).flatten (xs.toList.drop (k * l.length)) (ys.toList.drop (k * l.length)) = some b → (Op.eqItems d e l.length xs ys (List.range' k m)).run P w = .ok b w
  | 0, k, b, hb => by
    have : b = true := by
      unfold leafEq at hb
      split at hb <;> simp_all
    subst this
    simp [Op.eqItems]
  | m + 1, k, b, hb => by
    rw [List.replicate_succ, List.flatten_cons] at hb
    obtain ⟨b1, b2, h1, h2, rfl⟩ := leafEq_append hb
    obtain ⟨x, y, p1, p2, p3⟩ := step_ok (w := w) hl ih h1
    rw [List.drop_drop, List.drop_drop, ← Nat.succ_mul] at h2
    have := items_ok hl ih xs ys m (k + 1) b2 h2
    simp only [List.range'_succ, Op.eqItems, Sem.run_bind, p1, p2, p3, Result.andThen_ok]
    cases b1
    · simp
    · simpa using this

theorem eq_ok : ∀ (d : Nat) (t : TypeId) (ks : List LK), leavesOf P d t = some ks → EqOk P d t ks
  | 0, _, _, h => by cases h
  | d + 1, t, ks, h => by
    have h0 := h
    intro w x y b hagg hpl hb
    simp only [leavesOf] at h
    have leaf : plainT P t = true → (∀ k, ks = [k] → le1 k x y = some b → (Op.equalIn (d + 1) t x y).run P w = .ok b w) → (Op.equalIn (d + 1) t x y).run P w = .ok b w := fun hp hk => by
      obtain ⟨k, e, h1⟩ := hpl hp
      exact hk k e h1
    split at h
    · rename_i hu
      obtain ⟨rfl, _⟩ := sized_inv h
      refine leaf (by simp [plainT, hu]) fun k e h1 => ?_
      cases e
      unfold le1 at h1
      split at h1 <;> first | (cases h1; done) | skip
      · simp only [Option.some.injEq] at h1; subst h1; exact run_equalIn_bool' w d t _ _ hu
      · rename_i hh; cases hh
      · rename_i hh; cases hh
    · rename_i k0 hu
      obtain ⟨rfl, _⟩ := sized_inv h
      refine leaf (by simp [plainT, hu]) fun k e h1 => ?_
      cases e
      unfold le1 at h1
      split at h1 <;> first | (cases h1; done) | skip
      · rename_i hh; cases hh
      · rename_i hh
        cases hh
        split at h1
        · rename_i hk
          simp only [Option.some.injEq] at h1; subst h1
          rw [hk.1, hk.2]; exact run_equalIn_int w d t _ _ _ _ hu
        · cases h1
      · rename_i hh; cases hh
    · rename_i hu
      obtain ⟨rfl, _⟩ := sized_inv h
      refine leaf (by simp [plainT, hu]) fun k e h1 => ?_
      cases e
      unfold le1 at h1
      split at h1 <;> first | (cases h1; done) | skip
      · rename_i hh; cases hh
      · rename_i hh; cases hh
      · simp only [Option.some.injEq] at h1; subst h1; rw [← ByteArray.toList_eq, ← ByteArray.toList_eq]; exact run_equalIn_string w d t _ _ hu
    · rename_i fs hu
      split at h
      · cases h
      · rename_i hst
        obtain ⟨l, hl, h⟩ := Option.bind_eq_some_iff.1 h
        obtain ⟨rfl, _⟩ := sized_inv h
        obtain ⟨xs, ys, rfl, rfl⟩ := hagg (by simp [aggT, hu])
        have hf : P.fieldsOf t = fs := by simp [Program.fieldsOf, hu]
        rw [run_equalIn_struct w d t xs ys (by rw [hf]; exact hu) (by simpa using hst), hf]
        exact fields_ok (fun e ks h => eq_ok d e ks h) xs ys fs.toList 0 _ b hl (by simpa [vcl] using hb)
    · rename_i n e hu
      obtain ⟨l, hl, h⟩ := Option.bind_eq_some_iff.1 h
      obtain ⟨rfl, _⟩ := sized_inv h
      obtain ⟨xs, ys, rfl, rfl⟩ := hagg (by simp [aggT, hu])
      obtain ⟨i, hi, hs⟩ := leavesOf_size hl
      have hc : P.cellsOf e = l.length := by simp [Program.cellsOf, hi, hs]
      rw [run_equalIn_array w d xs ys hu hi, hc, List.range_eq_range']
      exact items_ok hl (eq_ok d e l hl) xs ys n 0 b (by simpa [vcl] using hb)
    · cases h
end
end Go.Fw
