import Derived.Test.YtadkdbnikmkgfaaFvEq
/-! Keys of maps: looked for, laid, struck. -/
namespace Go.Fw
section
variable {P : Program} {w : World}

theorem leafEq_diag : ∀ {ks : List LK} {l l' : List Value} {b : Bool}, leafEq ks l l' = some b → leafEq ks l l = some true
  | [], [], [], _, _ => rfl
  | k :: ks, x :: l, y :: l', b, h => by
    simp only [leafEq] at h ⊢
    obtain ⟨b0, h0, h⟩ := Option.bind_eq_some_iff.1 h
    obtain ⟨b', h', _⟩ := Option.map_eq_some_iff.1 h
    have h1 : le1 k x x = some true := by
      unfold le1 at h0 ⊢
      split at h0
      · simp
      · split at h0
        · rename_i hk; simp [hk.1]
        · cases h0
      · simp
      · cases h0
    rw [h1, Option.bind_some, leafEq_diag h']; rfl
  | [], x :: l, _, _, h => by simp [leafEq] at h
  | [], [], y :: l', _, h => by simp [leafEq] at h
  | k :: ks, [], _, _, h => by simp [leafEq] at h
  | k :: ks, x :: l, [], _, h => by simp [leafEq] at h

theorem keyFit_agg {v : Value} (h : keyFit true v = true) : ∃ xs, v = .agg xs := by
  cases v <;> simp [keyFit] at h
  exact ⟨_, rfl⟩
theorem keyOk_iff {ag : Bool} {ks : List LK} {k : Value} (h : keyOk ag ks k = true) : keyFit ag k = true ∧ leafEq ks (vcl k) (vcl k) = some true := by
  unfold keyOk at h
  simp only [Bool.and_eq_true] at h
  obtain ⟨b, hb⟩ := Option.isSome_iff_exists.1 h.2
  exact ⟨h.1, leafEq_diag hb⟩

/-- equality of keys, as the model asks it -/
theorem equal_key {t : TypeId} {ks : List LK} (hl : leavesOf P 10000 t = some ks) {x y : Value} {b : Bool} (hx : keyFit (aggT P t) x = true) (hy : keyFit (aggT P t) y = true) (h : leafEq ks (vcl x) (vcl y) = some b) :
    (Op.equal t x y).run P w = .ok b w := by
  refine eq_ok 10000 t ks hl w x y b (fun ha => ?_) (fun hp => ?_) h
  · rw [ha] at hx hy
    obtain ⟨xs, rfl⟩ := keyFit_agg hx
    obtain ⟨ys, rfl⟩ := keyFit_agg hy
    exact ⟨_, _, rfl, rfl⟩
  · rcases leaves_kind hl with ⟨_, ha, k, rfl⟩ | ⟨hp', _⟩
    · refine ⟨k, rfl, ?_⟩
      rw [ha] at hx hy
      have one : ∀ v : Value, keyFit false v = true → vcl v = [v] := fun v hv => by cases v <;> simp [keyFit] at hv <;> rfl
      rw [one x hx, one y hy] at h
      simp only [leafEq] at h
      obtain ⟨b0, h0, h⟩ := Option.bind_eq_some_iff.1 h
      simp only [Option.map_some, Option.some.injEq, Bool.and_true] at h
      rw [h0, h]
    · rw [hp] at hp'; cases hp'

theorem findAsking_ok {t : TypeId} {ks : List LK} (hl : leavesOf P 10000 t = some ks) {k : Value} (hk : keyFit (aggT P t) k = true) : ∀ (es : List MapEntry) (i : Nat) (r : Option (Nat × Value)), findE (aggT P t) ks k es i = some r →
    (Instr.findAsking t k es i).run P w = .ok r w
  | [], i, r, h => by simp only [findE, Option.some.injEq] at h; subst h; simp [Instr.findAsking]
  | e :: es, i, r, h => by
    simp only [findE] at h
    split at h
    case isFalse => cases h
    rename_i he
    obtain ⟨b, hb, h⟩ := Option.bind_eq_some_iff.1 h
    have h1 := equal_key (w := w) hl hk he hb
    cases b with
    | true => simp only [if_true, Option.some.injEq] at h; subst h; simp [Instr.findAsking, h1]
    | false =>
      simp only [Bool.false_eq_true, if_false] at h
      simp [Instr.findAsking, h1, findAsking_ok hl hk es (i + 1) r h]

theorem findKey_ok {t : TypeId} {ks : List LK} (hl : leavesOf P 10000 t = some ks) {k : Value} (hk : keyFit (aggT P t) k = true) {es : List MapEntry} {r : Option (Nat × Value)} (h : findE (aggT P t) ks k es 0 = some r) :
    (Instr.findKey t k es).run P w = .ok r w := by
  obtain ⟨d, hd⟩ : ∃ d, P.underlying t = some d := by
    cases hu : P.underlying t with
    | none => simp [leavesOf, hu] at hl
    | some d => exact ⟨d, rfl⟩
  have hnow : ∀ (es : List MapEntry) (i : Nat) (r r' : Option (Nat × Value)), findE (aggT P t) ks k es i = some r → Instr.findNow d k es i = some r' → r' = r := by
    intro es
    induction es with
    | nil => intro i r r' h h'; simp only [findE, Instr.findNow, Option.some.injEq] at h h'; rw [← h, ← h']
    | cons e es ih =>
      intro i r r' h h'
      obtain ⟨ky, vl, bn⟩ := e
      simp only [findE] at h
      split at h
      case isFalse => cases h
      rename_i he
      obtain ⟨b, hb, h⟩ := Option.bind_eq_some_iff.1 h
      simp only [Instr.findNow] at h'
      have same : ∀ b', Instr.sameNow d k ky = some b' → b' = b := fun b' hb' => by
        clear h h' ih
        unfold Instr.sameNow at hb'
        split at hb'
        · split at hb'
          · simp only [Option.some.injEq] at hb'; subst hb'
            simp only [vcl] at hb
            rcases leaves_kind hl with ⟨_, _, q, rfl⟩ | ⟨_, ha⟩
            · simp only [leafEq] at hb
              obtain ⟨b0, h0, hb⟩ := Option.bind_eq_some_iff.1 hb
              simp only [Option.map_some, Option.some.injEq, Bool.and_true] at hb
              unfold le1 at h0
              split at h0 <;> simp_all
            · simp [aggT, hd] at ha
          · cases hb'
        · simp only [Option.some.injEq] at hb'; subst hb'
          simp only [vcl] at hb
          rcases leaves_kind hl with ⟨_, _, q, rfl⟩ | ⟨_, ha⟩
          · simp only [leafEq] at hb
            obtain ⟨b0, h0, hb⟩ := Option.bind_eq_some_iff.1 hb
            simp only [Option.map_some, Option.some.injEq, Bool.and_true] at hb
            cases q <;> simp only [le1, reduceCtorEq, Option.some.injEq] at h0
            rw [← (show b0 = b by assumption), ← h0, beq_toListBytes, ByteArray.toList_eq, ByteArray.toList_eq]
          · simp [aggT, hd] at ha
        · simp only [Option.some.injEq] at hb'; subst hb'
          simp only [vcl] at hb
          rcases leaves_kind hl with ⟨_, _, q, rfl⟩ | ⟨_, ha⟩
          · simp only [leafEq] at hb
            obtain ⟨b0, h0, hb⟩ := Option.bind_eq_some_iff.1 hb
            simp only [Option.map_some, Option.some.injEq, Bool.and_true] at hb
            unfold le1 at h0
            split at h0 <;> simp_all
          · simp [aggT, hd] at ha
        · cases hb'
      split at h'
      · rename_i hs
        have := same _ hs
        subst this
        simp only [if_true, Option.some.injEq] at h h'
        rw [← h, ← h']
      · rename_i hs
        have := same _ hs
        subst this
        simp only [Bool.false_eq_true, if_false] at h
        exact ih (i + 1) r r' h h'
      · cases h'
  unfold Instr.findKey
  simp only [Sem.run_bind, run_underlying' hd, Result.andThen_ok]
  cases hn : Instr.findNow d k es 0 with
  | none => exact findAsking_ok hl hk es 0 r h
  | some r' => rw [hnow es 0 r r' h hn]; simp

/-! keys may be -/
def CkOk (P : Program) (em : Bool) (d : Nat) (t : TypeId) (ks : List LK) : Prop :=
  ∀ (w : World) (x : Value), keyFit (aggT P t) x = true → leafEq ks (vcl x) (vcl x) = some true → (Instr.checkKey em d t x).run P w = .ok () w

theorem step_ck {em : Bool} {d : Nat} {e : TypeId} {ks : List LK} (hl : leavesOf P d e = some ks) (ih : CkOk P em d e ks) {off : Nat} {xs : Array Value}
    (h : leafEq ks ((xs.toList.drop off).take ks.length) ((xs.toList.drop off).take ks.length) = some true) :
    ∃ x, (part e xs off).run P w = .ok x w ∧ (Instr.checkKey em d e x).run P w = .ok () w := by
  rcases leaves_kind hl with ⟨hp, ha, k, rfl⟩ | ⟨hp, ha⟩
  · have hlen := (leafEq_len h).1
    simp only [List.length_take, List.length_drop, Array.length_toList, List.length_cons, List.length_nil, Nat.zero_add] at hlen
    have hlt : off < xs.size := by omega
    have ex : (xs.toList.drop off).take [k].length = [xs[off]] := by
      rw [List.drop_eq_getElem_cons (by simpa using hlt)]
      simp
    rw [ex] at h
    have h1 : le1 k xs[off] xs[off] = some true := by
      simp only [leafEq] at h
      obtain ⟨b0, h0, h⟩ := Option.bind_eq_some_iff.1 h
      simp only [Option.map_some, Option.some.injEq, Bool.and_true] at h
      rw [h0, h]
    refine ⟨xs[off], run_part1 hp (Array.getElem?_eq_getElem hlt), ih w _ ?_ ?_⟩
    · rw [ha]
      unfold le1 at h1
      split at h1 <;> first | (rename_i e1 _ ; rw [e1]; rfl) | (rename_i e1; rw [e1]; rfl) | cases h1 | simp_all [keyFit]
    · have hv : vcl xs[off] = [xs[off]] := by
        unfold le1 at h1
        split at h1 <;> simp_all [vcl]
      rw [hv]; exact h
  · obtain ⟨i, hi, hs⟩ := leavesOf_size hl
    refine ⟨_, run_parta ha hi, ih w _ (by rw [ha]; rfl) ?_⟩
    simp only [vcl, ext_list, hs]
    exact h

theorem leafEq_append' {k1 k2 : List LK} {l : List Value} (h : leafEq (k1 ++ k2) l l = some true) : leafEq k1 (l.take k1.length) (l.take k1.length) = some true ∧ leafEq k2 (l.drop k1.length) (l.drop k1.length) = some true := by
  obtain ⟨b1, b2, h1, h2, h3⟩ := leafEq_append h
  have : b1 = true ∧ b2 = true := by simpa using h3.symm
  rw [this.1] at h1; rw [this.2] at h2
  exact ⟨h1, h2⟩

theorem ck_ok (em : Bool) : ∀ (d : Nat) (t : TypeId) (ks : List LK), leavesOf P d t = some ks → CkOk P em d t ks
  | 0, _, _, h => by cases h
  | d + 1, t, ks, h => by
    intro w x hx hb
    simp only [leavesOf] at h
    split at h
    · rename_i hu
      unfold Instr.checkKey
      simp only [Sem.run_bind, run_underlying' hu, Result.andThen_ok]
      cases x <;> rfl
    · rename_i hu
      unfold Instr.checkKey
      simp only [Sem.run_bind, run_underlying' hu, Result.andThen_ok]
      cases x <;> rfl
    · rename_i hu
      unfold Instr.checkKey
      simp only [Sem.run_bind, run_underlying' hu, Result.andThen_ok]
      cases x <;> rfl
    · rename_i fs hu
      split at h
      · cases h
      · obtain ⟨l, hl, h⟩ := Option.bind_eq_some_iff.1 h
        obtain ⟨rfl, _⟩ := sized_inv h
        have ha : aggT P t = true := by simp [aggT, hu]
        rw [ha] at hx
        obtain ⟨xs, rfl⟩ := keyFit_agg hx
        unfold Instr.checkKey
        simp only [Sem.run_bind, run_underlying' hu, Result.andThen_ok]
        rw [← Array.forIn_toList]
        have go : ∀ (L : List Field) (off : Nat) (ks : List LK), fieldsLeaves (leavesOf P d) L off = some ks → leafEq ks (xs.toList.drop off) (xs.toList.drop off) = some true →
            (forIn L PUnit.unit (fun f _ => do
              if f.name ≠ "_" then Instr.checkKey em d f.type (← part f.type xs f.offset)
              pure (ForInStep.yield PUnit.unit)) : Sem PUnit).run P w = .ok () w := by
          intro L
          induction L with
          | nil => intro off ks _ _; simp
          | cons f L ih =>
            intro off ks hk hb
            simp only [fieldsLeaves] at hk
            split at hk
            case isFalse => cases hk
            rename_i hn
            obtain ⟨l1, hl1, hk⟩ := Option.bind_eq_some_iff.1 hk
            obtain ⟨r, hr, rfl⟩ := Option.map_eq_some_iff.1 hk
            obtain ⟨h1, h2⟩ := leafEq_append' hb
            obtain ⟨v, p1, p2⟩ := step_ck (w := w) hl1 (ck_ok em d _ _ hl1) h1
            rw [List.drop_drop] at h2
            rw [List.forIn_cons]
            simp only [Sem.run_bind, hn.1, ne_eq, not_false_eq_true, if_true, hn.2, p1, p2, Result.andThen_ok, Sem.run_pure]
            exact ih _ _ hr h2
        have := go fs.toList 0 _ hl (by simpa [vcl] using hb)
        simp at this ⊢
        rw [this]; rfl
    · rename_i n e hu
      obtain ⟨l, hl, h⟩ := Option.bind_eq_some_iff.1 h
      obtain ⟨rfl, _⟩ := sized_inv h
      have ha : aggT P t = true := by simp [aggT, hu]
      rw [ha] at hx
      obtain ⟨xs, rfl⟩ := keyFit_agg hx
      obtain ⟨i, hi, hs⟩ := leavesOf_size hl
      unfold Instr.checkKey
      simp only [Sem.run_bind, run_underlying' hu, Result.andThen_ok]
      simp only [Std.Legacy.Range.forIn_eq_forIn_range', Std.Legacy.Range.size, Nat.sub_zero, Nat.add_one_sub_one, Nat.div_one]
      have go : ∀ (m k : Nat), leafEq (List.replicate m l).flatten (xs.toList.drop (k * l.length)) (xs.toList.drop (k * l.length)) = some true →
          (forIn (List.range' k m) PUnit.unit (fun i _ => do
            Instr.checkKey em d e (← part e xs (i * (← sizeOf e)))
            pure (ForInStep.yield PUnit.unit)) : Sem PUnit).run P w = .ok () w := by
        intro m
        induction m with
        | zero => intro k _; simp
        | succ m ih =>
          intro k hb
          rw [List.replicate_succ, List.flatten_cons] at hb
          obtain ⟨h1, h2⟩ := leafEq_append' hb
          obtain ⟨v, p1, p2⟩ := step_ck (w := w) hl (ck_ok em d _ _ hl) h1
          rw [List.drop_drop, ← Nat.succ_mul] at h2
          rw [List.range'_succ, List.forIn_cons]
          simp only [Sem.run_bind, run_sizeOf' hi, hs, Result.andThen_ok, p1, p2, Sem.run_pure]
          exact ih (k + 1) h2
      have := go n 0 (by simpa [vcl] using hb)
      simp at this ⊢
      rw [this]; rfl
    · cases h

theorem checkKey_ok {em : Bool} {t : TypeId} {ks : List LK} (hl : leavesOf P 10000 t = some ks) {k : Value} (h : keyOk (aggT P t) ks k = true) : (Instr.checkKey em 10000 t k).run P w = .ok () w := by
  obtain ⟨h1, h2⟩ := keyOk_iff h
  exact ck_ok em 10000 t ks hl w k h1 h2

/-- the entry that was found has that very key -/
theorem le1_same {k : LK} {x y : Value} (h : le1 k x y = some true) : x = y := by
  unfold le1 at h
  split at h
  · simp only [Option.some.injEq, beq_iff_eq] at h; rw [h]
  · split at h
    · rename_i hk
      simp only [Option.some.injEq, beq_iff_eq] at h; rw [h, hk.1, hk.2]
    · cases h
  · simp only [Option.some.injEq, beq_iff_eq] at h
    rename_i a b
    obtain ⟨⟨a⟩⟩ := a
    obtain ⟨⟨b⟩⟩ := b
    simp only at h; rw [h]
  · cases h
theorem leafEq_same : ∀ {ks : List LK} {l l' : List Value}, leafEq ks l l' = some true → l = l'
  | [], [], [], _ => rfl
  | k :: ks, x :: l, y :: l', h => by
    simp only [leafEq] at h
    obtain ⟨b0, h0, h⟩ := Option.bind_eq_some_iff.1 h
    obtain ⟨b', h', e⟩ := Option.map_eq_some_iff.1 h
    simp only [Bool.and_eq_true] at e
    rw [e.1] at h0; rw [e.2] at h'
    rw [le1_same h0, leafEq_same h']
  | [], x :: l, _, h => by simp [leafEq] at h
  | [], [], y :: l', h => by simp [leafEq] at h
  | k :: ks, [], _, h => by simp [leafEq] at h
  | k :: ks, x :: l, [], h => by simp [leafEq] at h
theorem key_same {ag : Bool} {ks : List LK} {x y : Value} (hx : keyFit ag x = true) (hy : keyFit ag y = true) (h : leafEq ks (vcl x) (vcl y) = some true) : x = y := by
  have hv := leafEq_same h
  cases ag with
  | true =>
    obtain ⟨xs, rfl⟩ := keyFit_agg hx
    obtain ⟨ys, rfl⟩ := keyFit_agg hy
    simp only [vcl] at hv
    rw [Array.toList_inj.1 hv]
  | false =>
    have one : ∀ v : Value, keyFit false v = true → vcl v = [v] := fun v hv => by cases v <;> simp [keyFit] at hv <;> rfl
    rw [one x hx, one y hy] at hv
    simpa using hv
theorem findE_at {ag : Bool} {ks : List LK} {k : Value} (hk : keyFit ag k = true) : ∀ {es : List MapEntry} {i j : Nat} {v : Value}, findE ag ks k es i = some (some (j, v)) → ∃ n e, j = i + n ∧ es[n]? = some e ∧ e.key = k ∧ e.val = v
  | [], i, j, v, h => by simp [findE] at h
  | e :: es, i, j, v, h => by
    simp only [findE] at h
    split at h
    case isFalse => cases h
    rename_i he
    obtain ⟨b, hb, h⟩ := Option.bind_eq_some_iff.1 h
    cases b with
    | true =>
      simp only [if_true, Option.some.injEq, Prod.mk.injEq] at h
      exact ⟨0, e, by simp [h.1], rfl, (key_same hk he hb).symm, h.2⟩
    | false =>
      simp only [Bool.false_eq_true, if_false] at h
      obtain ⟨n, e', h1, h2, h3⟩ := findE_at hk h
      exact ⟨n + 1, e', by omega, by simpa using h2, h3⟩
theorem leaf_bits {k : LK} {x : Value} (h : le1 k x x = some true) (n : Nat) : Instr.sameBits n x x = true := by
  unfold le1 at h
  split at h
  · cases n <;> simp [Instr.sameBits]
  · cases n <;> simp [Instr.sameBits]
  · have e : ∀ a : ByteArray, (a == a) = true := fun a => by rw [beq_toListBytes]; simp
    cases n <;> simp only [Instr.sameBits, e]
  · cases h
theorem key_bits {ag : Bool} {ks : List LK} {k : Value} (h : keyOk ag ks k = true) : Instr.sameBits 10000 k k = true := by
  obtain ⟨h1, h2⟩ := keyOk_iff h
  have all : ∀ {ks : List LK} {l : List Value}, leafEq ks l l = some true → ∀ v ∈ l, ∀ n, Instr.sameBits n v v = true := by
    intro ks
    induction ks with
    | nil =>
      intro l h v hv
      cases l with
      | nil => cases hv
      | cons x l => simp [leafEq] at h
    | cons k ks ih =>
      intro l h v hv n
      cases l with
      | nil => cases hv
      | cons x l =>
        simp only [leafEq] at h
        obtain ⟨b0, h0, h⟩ := Option.bind_eq_some_iff.1 h
        obtain ⟨b', h', e⟩ := Option.map_eq_some_iff.1 h
        simp only [Bool.and_eq_true] at e
        rw [e.1] at h0; rw [e.2] at h'
        rcases List.mem_cons.1 hv with rfl | hv
        · exact leaf_bits h0 n
        · exact ih h' v hv n
  cases ag with
  | true =>
    obtain ⟨xs, rfl⟩ := keyFit_agg h1
    show Instr.sameBits (9999 + 1) (.agg xs) (.agg xs) = true
    simp only [Instr.sameBits, beq_self_eq_true, Bool.true_and, List.all_eq_true]
    rintro ⟨a, b⟩ hp
    obtain ⟨i, hi, e⟩ := List.mem_iff_getElem.1 hp
    rw [List.getElem_zip] at e
    have hia : i < xs.toList.length := by simpa using hi
    cases e
    exact all h2 _ (List.getElem_mem hia) 9999
  | false =>
    have one : vcl k = [k] := by cases k <;> simp [keyFit] at h1 <;> rfl
    rw [one] at h2
    exact all h2 k (List.mem_singleton.2 rfl) 10000
theorem stays_ok {ag : Bool} {ks : List LK} {k : Value} (h : keyOk ag ks k = true) : (Instr.keyThatStays k k).run P w = .ok k w := by
  simp [Instr.keyThatStays, key_bits h]
end
end Go.Fw
