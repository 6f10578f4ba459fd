import Derived.Test.YtadkdbnikmkgfaaFvRes
namespace Go.Fw
section sound
variable {P : Program} {ro : RO} {xl : List Operand} {m : Mem} {w : World} {ρ : Operand → Value} {v : Value}

theorem run_getObj_map {r : Nat} {es : Array MapEntry} {c : Nat} (h : absM w r = some (.map es c)) : (getObj r).run P w = .ok (.map es c) w := by
  have h' : w.heap[r]? = some (.map es c) := h
  simp [getObj, Sem.run, h']
theorem len_quiet {ats : Array TypeId} {args : List Operand} {ty : TypeId} (h : resLen P ats args = some (ro, xl)) (hr : rd ro (xl.map ρ) m = some v) (hw : absM w = m) :
    (Builtin.len_ ats ty (args.map ρ).toArray).run P w = .ok v w := by
  unfold resLen at h
  split at h
  · obtain ⟨rfl, rfl⟩ := some_pair h
    rename_i e hu
    obtain ⟨t, ht, hu⟩ := Option.bind_eq_some_iff.1 hu
    match args, hr with
    | [x], hr =>
      obtain ⟨a, n, c, hx, e⟩ := s1_inv hr
      simp only [Option.some.injEq] at e; subst e
      simp [Builtin.len_, ht, hx, run_underlying' hu, goInt]
    | [], hr => simp [rd, rdp, RO.reads] at hr
    | _ :: _ :: _, hr => simp [rd, rdp, RO.reads] at hr
  · obtain ⟨rfl, rfl⟩ := some_pair h
    rename_i hu
    obtain ⟨t, ht, hu⟩ := Option.bind_eq_some_iff.1 hu
    match args, hr with
    | [x], hr =>
      obtain ⟨s, hx, e⟩ := z1_inv hr
      simp only [Option.some.injEq] at e; subst e
      simp [Builtin.len_, ht, hx, run_underlying' hu, goInt]
    | [], hr => simp [rd, rdp, RO.reads] at hr
    | _ :: _ :: _, hr => simp [rd, rdp, RO.reads] at hr
  · obtain ⟨rfl, rfl⟩ := some_pair h
    rename_i hu
    obtain ⟨t, ht, hu⟩ := Option.bind_eq_some_iff.1 hu
    match args, hr with
    | [x], hr =>
      have hr : (entriesOf m (ρ x)).map (fun es => Value.int .i64 es.size) = some v := hr
      obtain ⟨es, he, rfl⟩ := Option.map_eq_some_iff.1 hr
      unfold entriesOf at he
      split at he
      · rename_i hx
        simp only [Option.some.injEq] at he; subst he
        simp [Builtin.len_, ht, hx, run_underlying' hu, goInt]
      · rename_i r hx
        split at he
        · rename_i es' c hr'
          simp only [Option.some.injEq] at he; subst he
          subst hw
          simp [Builtin.len_, ht, hx, run_underlying' hu, goInt, run_getObj_map hr']
        · cases he
      · cases he
    | [], hr => simp [rd, rdm, RO.reads] at hr
    | _ :: _ :: _, hr => simp [rd, rdm, RO.reads] at hr
  · cases h

theorem two_inv {ro0 : RO} {args : List Operand} (h : two ro0 args = some (ro, xl)) : ro = ro0 ∧ xl = args ∧ ∃ a b, args = [a, b] := by
  unfold two at h
  split at h
  · rename_i hl
    obtain ⟨rfl, rfl⟩ := some_pair h
    match args, hl with
    | [a, b], _ => exact ⟨rfl, rfl, a, b, rfl⟩
  · cases h

theorem min_run {ats : Array TypeId} {ty : TypeId} {args : List Value} (hr : rd .mn args m = some v) : (Builtin.min_ ats ty args.toArray).run P w = .ok v w := by
  have two2 : ∀ a b u, mn2 a b = some u → (Builtin.min2 a b).run P w = .ok u w := fun a b u h => by
    unfold mn2 at h
    split at h
    · split at h
      · rename_i hk
        simp only [Option.some.injEq] at h; subst h; simp [Builtin.min2]
      · cases h
    · simp only [Option.some.injEq] at h; subst h
      simp only [Builtin.min2, Op.stringOp, ByteArray.toList_eq, Sem.run_bind, Sem.run_pure, Result.andThen_ok, asBool]
    · cases h
  cases args with
  | nil => simp [rd, rdp, RO.reads] at hr
  | cons x r =>
    have hr : fold2 mn2 x r = some v := hr
    show (r.foldlM Builtin.min2 x).run P w = .ok v w
    induction r generalizing x with
    | nil => simp only [fold2, Option.some.injEq] at hr; subst hr; simp
    | cons y r ih =>
      simp only [fold2] at hr
      obtain ⟨u, hu, hr⟩ := Option.bind_eq_some_iff.1 hr
      simp only [List.foldlM_cons, Sem.run_bind, two2 _ _ _ hu, Result.andThen_ok]
      exact ih u hr hr
theorem max_run {ats : Array TypeId} {ty : TypeId} {args : List Value} (hr : rd .mx args m = some v) : (Builtin.max_ ats ty args.toArray).run P w = .ok v w := by
  have two2 : ∀ a b u, mx2 a b = some u → (Builtin.max2 a b).run P w = .ok u w := fun a b u h => by
    unfold mx2 at h
    split at h
    · split at h
      · rename_i hk
        simp only [Option.some.injEq] at h; subst h; simp [Builtin.max2]
      · cases h
    · cases h
  cases args with
  | nil => simp [rd, rdp, RO.reads] at hr
  | cons x r =>
    have hr : fold2 mx2 x r = some v := hr
    show (r.foldlM Builtin.max2 x).run P w = .ok v w
    induction r generalizing x with
    | nil => simp only [fold2, Option.some.injEq] at hr; subst hr; simp
    | cons y r ih =>
      simp only [fold2] at hr
      obtain ⟨u, hu, hr⟩ := Option.bind_eq_some_iff.1 hr
      simp only [List.foldlM_cons, Sem.run_bind, two2 _ _ _ hu, Result.andThen_ok]
      exact ih u hr hr

theorem call_quiet {o : Oper} {c : Call} (ho : o.op = .call c) (h : resCall P c c.args.toList = some (ro, xl)) (hq : ro.quiet = true) (hr : rd ro (xl.map ρ) m = some v) (hw : absM w = m) :
    (execOp ρ o).run P w = .ok (.value v) w := by
  obtain ⟨callee, args, argTypes⟩ := c
  obtain ⟨args⟩ := args
  simp only [resCall] at h
  cases callee with
  | invoke r n => cases h
  | value f =>
    simp only [resVal] at h
    cases f with
    | func f =>
      simp only at h
      obtain ⟨fn, hf, h⟩ := Option.bind_eq_some_iff.1 h
      split at h
      · obtain ⟨rfl, rfl⟩ := some_pair h; simp [RO.quiet] at hq
      · cases h
    | tmp t => obtain ⟨rfl, rfl⟩ := some_pair h; simp [RO.quiet] at hq
    | _ => cases h
  | builtin b =>
    simp only [resBuiltin] at h
    split at h
    · have := len_quiet (w := w) (ty := o.type) h hr hw
      simp only [execOp, ho, resolve, List.map_toArray, Sem.run_bind, Sem.run_pure, Result.andThen_ok, invoke, builtin, this]
    · unfold resApp at h
      split at h
      · split at h
        · obtain ⟨i, hi, h⟩ := Option.bind_eq_some_iff.1 h
          obtain ⟨z, hz, h⟩ := Option.bind_eq_some_iff.1 h
          split at h
          · obtain ⟨rfl, rfl⟩ := some_pair h; simp [RO.quiet] at hq
          · cases h
        · obtain ⟨i, hi, h⟩ := Option.bind_eq_some_iff.1 h
          split at h
          · obtain ⟨rfl, rfl⟩ := some_pair h; simp [RO.quiet] at hq
          · cases h
        · cases h
      · cases h
    · unfold resCopy at h
      split at h
      · obtain ⟨i, hi, h⟩ := Option.map_eq_some_iff.1 h
        obtain ⟨rfl, rfl⟩ := Prod.mk.injEq .. ▸ h; simp [RO.quiet] at hq
      · cases h
    · obtain ⟨rfl, rfl⟩ := some_pair h
      have := min_run (P := P) (w := w) (ats := argTypes) (ty := o.type) (args := args.map ρ) hr
      simp only [execOp, ho, resolve, List.map_toArray, Sem.run_bind, Sem.run_pure, Result.andThen_ok, invoke, builtin, this]
    · obtain ⟨rfl, rfl⟩ := some_pair h
      have := max_run (P := P) (w := w) (ats := argTypes) (ty := o.type) (args := args.map ρ) hr
      simp only [execOp, ho, resolve, List.map_toArray, Sem.run_bind, Sem.run_pure, Result.andThen_ok, invoke, builtin, this]
    · unfold resDelete at h
      obtain ⟨z, hz, h⟩ := Option.map_eq_some_iff.1 h
      obtain ⟨rfl, rfl⟩ := Prod.mk.injEq .. ▸ h; simp [RO.quiet] at hq
    · unfold resClear at h
      split at h
      · obtain ⟨z, hz, h⟩ := Option.map_eq_some_iff.1 h
        obtain ⟨rfl, rfl⟩ := Prod.mk.injEq .. ▸ h; simp [RO.quiet] at hq
      · obtain ⟨rfl, rfl⟩ := some_pair h; simp [RO.quiet] at hq
      · cases h
    · cases h

theorem run_places : ∀ (fs : List Field), (fs.all fun f => (P.info? f.type).isSome) = true → (fs.mapM (fun f => do pure (f.offset, ← Go.sizeOf f.type) : Field → Sem (Nat × Nat))).run P w = .ok (fs.map fun f => (f.offset, ((P.info? f.type).map (·.size)).getD 0)) w
  | [], _ => rfl
  | f :: fs, h => by
    simp only [List.all_cons, Bool.and_eq_true] at h
    obtain ⟨i, hi⟩ := Option.isSome_iff_exists.1 h.1
    have ih := run_places fs h.2
    simp only [List.mapM_cons, Sem.run_bind, run_sizeOf' hi, Result.andThen_ok, Sem.run_pure, ih, List.map_cons, hi, Option.map_some, Option.getD_some]

theorem places_map {fields : Array Field} : ∀ {l : List Nat} {ps : List (Nat × Nat)}, placesOf P l fields = some ps →
    (l.map fun i => (fields.map fun f => (f.offset, ((P.info? f.type).map (·.size)).getD 0))[i]?) = ps.map some
  | [], ps, h => by simp only [placesOf, List.mapM_nil, pure, Option.some.injEq] at h; subst h; rfl
  | i :: l, ps, h => by
    simp only [placesOf, List.mapM_cons, bind, pure, Option.bind_eq_some_iff, Option.some.injEq] at h
    obtain ⟨p, ⟨f, hf, hp⟩, r, hr, rfl⟩ := h
    obtain ⟨j, hj, rfl⟩ := Option.map_eq_some_iff.1 hp
    simp only [List.map_cons, Array.getElem?_map, hf, Option.map_some, hj, Option.getD_some]
    congr 1
    have := places_map (l := l) (ps := r) (by simpa [placesOf, bind, pure] using hr)
    simpa using this

theorem build_quiet {t : TypeId} {parts : List (Nat × Operand)} (h : resBuild P t parts = some (ro, xl)) (hr : rd ro (xl.map ρ) m = some v) :
    (Instr.build t ((parts.map fun (i, x) => (i, ρ x)).toArray)).run P w = .ok v w := by
  unfold resBuild at h
  obtain ⟨⟨z, n⟩, hz, h⟩ := Option.bind_eq_some_iff.1 h
  unfold zeroOf at hz
  obtain ⟨i, hi, hz⟩ := Option.bind_eq_some_iff.1 hz
  obtain ⟨z', hz', e⟩ := Option.map_eq_some_iff.1 hz
  simp only [Prod.mk.injEq] at e
  obtain ⟨rfl, rfl⟩ := e
  have hzero : (zeroValue t).run P w = .ok z' w := by simp [zeroValue, run_typeInfo' hi, hz']
  split at h
  · rename_i fields hu
    split at h
    case isFalse => cases h
    rename_i hf
    obtain ⟨ps, hps, h⟩ := Option.map_eq_some_iff.1 h
    obtain ⟨rfl, rfl⟩ := Prod.mk.injEq .. ▸ h
    obtain ⟨l, hl, rfl⟩ := Option.map_eq_some_iff.1 hr
    have hpl := run_places (P := P) (w := w) fields.toList (by
      unfold fieldsIn at hf
      rw [← Array.all_toList] at hf
      exact hf)
    have hm := places_map hps
    have hfill := fill_lay (fun i : Nat => (fields.map fun f => (f.offset, ((P.info? f.type).map (·.size)).getD 0))[i]?) (parts.map fun (i, x) => (i, ρ x)) ps z'.cells l
      (by rw [List.map_map, ← hm, List.map_map]; rfl) (by rw [List.map_map]; rw [List.map_map] at hl; exact hl)
    simp only [Instr.build, Sem.run_bind, hzero, Result.andThen_ok, run_underlying' hu]
    rw [Array.mapM_eq_mapM_toList]
    simp only [Sem.run_map, hpl, Result.andThen_ok]
    have e1 : (fun i : Nat => (List.map (fun f => (f.offset, ((P.info? f.type).map (·.size)).getD 0)) fields.toList).toArray[i]?) = fun i : Nat => (fields.map fun f => (f.offset, ((P.info? f.type).map (·.size)).getD 0))[i]? := by
      funext i; simp
    rw [e1]
    simp only [hfill] at *
    first | rfl | (rw [hfill]; rfl)
  · rename_i k e hu
    obtain ⟨j, hj, h⟩ := Option.map_eq_some_iff.1 h
    obtain ⟨rfl, rfl⟩ := Prod.mk.injEq .. ▸ h
    obtain ⟨l, hl, rfl⟩ := Option.map_eq_some_iff.1 hr
    have hfill := fill_lay (fun i => some (i * j.size, j.size)) (parts.map fun (i, x) => (i, ρ x)) (parts.map fun p => (p.1 * j.size, j.size)) z'.cells l
      (by simp [List.map_map]) (by rw [List.map_map]; rw [List.map_map] at hl; exact hl)
    simp [Instr.build, hzero, run_underlying' hu, run_sizeOf' hj, hfill]
  · cases h

theorem lookup_quiet {t : TypeId} {x i : Operand} {ok : Bool} (h : resLookup P t x i ok = some (ro, xl)) (hr : rd ro (xl.map ρ) m = some v) (hw : absM w = m) : (Instr.lookup t (ρ x) (ρ i) ok).run P w = .ok v w := by
  unfold resLookup at h
  obtain ⟨⟨ag, ks, e⟩, hk, h⟩ := Option.bind_eq_some_iff.1 h
  obtain ⟨z, hz, h⟩ := Option.map_eq_some_iff.1 h
  obtain ⟨rfl, rfl⟩ := Prod.mk.injEq .. ▸ h
  unfold resKey at hk
  split at hk
  case h_2 => cases hk
  rename_i k e' hu
  obtain ⟨ks', hl, hk⟩ := Option.map_eq_some_iff.1 hk
  simp only [Prod.mk.injEq] at hk
  obtain ⟨rfl, rfl, rfl⟩ := hk
  unfold zeroOf at hz
  obtain ⟨inf, hi, hz⟩ := Option.bind_eq_some_iff.1 hz
  obtain ⟨z', hz', rfl⟩ := Option.map_eq_some_iff.1 hz
  have hzero : (zeroValue e').run P w = .ok z' w := by simp [zeroValue, run_typeInfo' hi, hz']
  simp only [List.map_cons, List.map_nil, rd, RO.reads, rdm] at hr
  split at hr
  case isFalse => cases hr
  rename_i hok
  obtain ⟨es, he, hr⟩ := Option.bind_eq_some_iff.1 hr
  obtain ⟨r, hf, hr⟩ := Option.map_eq_some_iff.1 hr
  have h1 := checkKey_ok (w := w) (em := es.isEmpty) hl hok
  have h2 := findKey_ok (w := w) hl (keyOk_iff hok).1 hf
  have tail : (do
      Instr.checkKey es.isEmpty 10000 k (ρ i)
      let (v, found) ← match ← Instr.findKey k (ρ i) es.toList with
        | some (_, v) => pure (v, true)
        | none => pure (← zeroValue e', false)
      pure (if ok then .tuple #[v, .bool found] else v) : Sem Value).run P w = .ok v w := by
    simp only [Sem.run_bind, h1, h2, Result.andThen_ok]
    cases r with
    | none =>
      simp only at hr
      simp only [Sem.run_bind, hzero, Result.andThen_ok, Sem.run_pure]
      subst hr; rfl
    | some jv =>
      obtain ⟨j, u⟩ := jv
      simp only at hr
      simp only []
      subst hr; rfl
  unfold entriesOf at he
  split at he
  · rename_i hx
    simp only [Option.some.injEq] at he; subst he
    rw [← tail]
    simp only [Instr.lookup, Sem.run_bind, run_underlying' hu, Result.andThen_ok, hx, Sem.run_pure]
    rfl
  · rename_i b hx
    split at he
    · rename_i es' c hr'
      simp only [Option.some.injEq] at he; subst he
      subst hw
      rw [← tail]
      simp only [Instr.lookup, Sem.run_bind, run_underlying' hu, Result.andThen_ok, hx, run_getObj_map hr', Sem.run_pure]
      rfl
    · cases he
  · cases he

theorem bytes_run {a : Addr} {n : Nat} {l : List Value} (h : ldCells m a 0 n = some l) {bs : List UInt8} (hb : bytesIn l = some bs) (hw : absM w = m) {k : Nat} : (Conv.bytesToString (.slice (some a) n k)).run P w = .ok (.string ⟨bs.toArray⟩) w := by
  have h1 := run_loadCellsFrom (P := P) hw a n 0 #[] l h
  have go : ∀ (l : List Value) (bs : List UInt8) (s : ByteArray), bytesIn l = some bs →
      (forIn l s (fun c r => do
        let s := r
        let .int .u8 n := c | do { (stuck "bytesToString: byte expected" : Sem Unit); pure (ForInStep.yield s) }
        pure (ForInStep.yield (s.push (UInt8.ofNat n.toNat)))) : Sem ByteArray).run P w = .ok (s ++ ⟨bs.toArray⟩) w := by
    intro l
    induction l with
    | nil =>
      intro bs s hb
      simp only [bytesIn, Option.some.injEq] at hb; subst hb
      have : s ++ ⟨([] : List UInt8).toArray⟩ = s := by apply ByteArray.ext; simp
      rw [this]; simp
    | cons v l ih =>
      intro bs s hb
      unfold bytesIn at hb
      split at hb
      · cases ‹_ :: _ = []›
      · rename_i n r e
        cases e
        obtain ⟨bs', hb', rfl⟩ := Option.map_eq_some_iff.1 hb
        rw [List.forIn_cons]
        simp only [Sem.run_bind, Sem.run_pure, Result.andThen_ok]
        rw [ih bs' _ hb']
        congr 1
        apply ByteArray.ext
        apply Array.ext'
        simp
      · cases hb
  have := go l bs .empty hb
  simp only [Conv.bytesToString, loadCells, Sem.run_bind, h1, Result.andThen_ok]
  rw [← Array.forIn_toList]
  simp at this ⊢
  refine (congrArg (fun r => Result.andThen r fun a w' => .ok (Value.string a) w') this).trans ?_
  simp

theorem getObj_iter {r : Nat} {mm : Option Nat} {a b : Nat} {s : Array Nat} (h : absM w r = some (.mapIter mm a s b)) : (getObj r).run P w = .ok (.mapIter mm a s b) w := by
  have h' : w.heap[r]? = some (.mapIter mm a s b) := h
  simp [getObj, Sem.run, h']
theorem entry_quiet {it : Operand} (hr : rd .ent [ρ it] m = some v) (hw : absM w = m) : (Instr.entry (ρ it)).run P w = .ok v w := by
  obtain ⟨⟨b, o, s⟩, hx, e⟩ := p1_inv hr
  unfold entRead at e
  split at e
  case isFalse => cases e
  rename_i ho
  simp only at ho; subst ho
  split at e
  case h_2 => cases e
  rename_i mb since seen last hb
  split at e
  case h_2 => cases e
  rename_i stamp hs
  split at e
  case h_2 => cases e
  rename_i es clock hm
  split at e
  case isFalse => cases e
  rename_i hc
  obtain ⟨en, he, rfl⟩ := Option.map_eq_some_iff.1 e
  subst hw; subst hc
  simp only [Instr.entry, hx, Sem.run_bind, getObj_iter hb, Result.andThen_ok, hs, run_getObj_map hm, bne_self_eq_false, Bool.false_eq_true, if_false, Sem.run_pure, he]

theorem res_quiet {o : Oper} (h : res P o = some (ro, xl)) (hq : ro.quiet = true) (hr : rd ro (xl.map ρ) m = some v) (hw : absM w = m) :
    (execOp ρ o).run P w = .ok (.value v) w := by
  have h0 := res_cases h
  clear h
  rcases h0 with h | h
  case inr => cases h; simp [RO.quiet] at hq
  obtain ⟨dst, op, type, pos, after, guard⟩ := o
  cases op <;> simp only [res0, reduceCtorEq] at h
  case call c => exact call_quiet rfl h hq hr hw
  case binOp op t x y u =>
    have := bin_quiet (w := w) h hr
    simp only [Sem.run_bind] at this
    simp only [execOp, Sem.run_bind, this]
    rfl
  case move x => obtain ⟨rfl, rfl⟩ := some_pair h; simp only [List.map_cons, List.map_nil, rd, rdp, RO.reads, Option.some.injEq] at hr; subst hr; simp [execOp]
  case assign x => obtain ⟨rfl, rfl⟩ := some_pair h; simp only [List.map_cons, List.map_nil, rd, rdp, RO.reads, Option.some.injEq] at hr; subst hr; simp [execOp]
  case pick c a b =>
    obtain ⟨rfl, rfl⟩ := some_pair h
    obtain ⟨t, hx, e⟩ := b1_inv hr
    simp only [Option.some.injEq] at e; subst e
    cases t <;> simp [execOp, hx, asBool]
  case nilCheck x =>
    obtain ⟨rfl, rfl⟩ := some_pair h
    obtain ⟨a, hx, e⟩ := p1_inv hr
    simp only [Option.some.injEq] at e; subst e
    simp [execOp, hx]
  case fieldAddr s x f =>
    split at h
    · rename_i fields hu
      obtain ⟨fl, hf, h⟩ := Option.bind_eq_some_iff.1 h
      obtain ⟨i, hi, h⟩ := Option.bind_eq_some_iff.1 h
      split at h
      · cases h
      · rename_i hz
        obtain ⟨rfl, rfl⟩ := some_pair h
        obtain ⟨a, hx, e⟩ := p1_inv hr
        simp only [Option.some.injEq] at e; subst e
        simp [execOp, Instr.fieldAt, run_underlying' hu, hf, hx, Instr.sureAddr, fieldPlace, run_sizeOf' hi, hz]
    · cases h
  case indexAddr t x i =>
    split at h
    · rename_i e hu
      obtain ⟨j, hj, h⟩ := Option.map_eq_some_iff.1 h
      obtain ⟨rfl, rfl⟩ := Prod.mk.injEq .. ▸ h
      obtain ⟨a, n, c, hx, e⟩ := s1_inv hr
      obtain ⟨k, i, hi, e⟩ := i1_inv e
      split at e
      · rename_i hb
        cases a with
        | none => simp at e
        | some a =>
          simp only [Option.map_some, Option.some.injEq] at e; subst e
          simp [execOp, Instr.indexAt, run_underlying' hu, hx, hi, asIntOf, run_sizeOf' hj, hb]
      · cases e
    · rename_i n e hu
      obtain ⟨j, hj, h⟩ := Option.map_eq_some_iff.1 h
      obtain ⟨rfl, rfl⟩ := Prod.mk.injEq .. ▸ h
      obtain ⟨a, hx, e⟩ := p1_inv hr
      obtain ⟨k, i, hi, e⟩ := i1_inv e
      split at e
      · rename_i hb
        simp only [Option.some.injEq] at e; subst e
        simp [execOp, Instr.indexAt, run_underlying' hu, hx, hi, asIntOf, run_sizeOf' hj, hb, Instr.sureAddr]
      · cases e
    · cases h
  case load t x =>
    split at h
    · rename_i hp
      obtain ⟨rfl, rfl⟩ := some_pair h
      obtain ⟨a, hx, e⟩ := p1_inv hr
      simp [execOp, Instr.loadAt, hx, Instr.sureAddr, loadVar, isAgg_plain hp, run_load_cell hw e, -run_load]
    · split at h
      · rename_i hp
        obtain ⟨i, hi, h⟩ := Option.map_eq_some_iff.1 h
        obtain ⟨rfl, rfl⟩ := Prod.mk.injEq .. ▸ h
        obtain ⟨a, hx, e⟩ := p1_inv hr
        obtain ⟨l, hl, rfl⟩ := Option.map_eq_some_iff.1 e
        simp [execOp, Instr.loadAt, hx, Instr.sureAddr, loadVar, isAgg_agg hp, run_sizeOf' hi, loadCells, run_loadCellsFrom hw a _ _ _ _ hl]
      · cases h
  case store t a x => obtain ⟨i, hi, h⟩ := Option.map_eq_some_iff.1 h; obtain ⟨rfl, rfl⟩ := Prod.mk.injEq .. ▸ h; simp [RO.quiet] at hq
  case alloc t => obtain ⟨i, hi, h⟩ := Option.map_eq_some_iff.1 h; obtain ⟨rfl, rfl⟩ := Prod.mk.injEq .. ▸ h; simp [RO.quiet] at hq
  case box t x => obtain ⟨rfl, rfl⟩ := some_pair h; simp [RO.quiet] at hq
  case unOp op t x =>
    cases op <;> simp only [resUn, reduceCtorEq] at h
    · split at h
      · obtain ⟨rfl, rfl⟩ := some_pair h
        obtain ⟨k, n, hx, e⟩ := i1_inv hr
        simp only [Option.some.injEq] at e; subst e
        simp [execOp, hx, Op.unary, Op.intArith]
      · cases h
    · split at h
      · obtain ⟨rfl, rfl⟩ := some_pair h
        obtain ⟨k, n, hx, e⟩ := i1_inv hr
        simp only [Option.some.injEq] at e; subst e
        simp [execOp, hx, Op.unary, Op.intBits]
      · cases h
    · obtain ⟨rfl, rfl⟩ := some_pair h
      obtain ⟨b, hx, e⟩ := b1_inv hr
      simp only [Option.some.injEq] at e; subst e
      simp [execOp, hx, Op.unary]
  case convert s d x =>
    split at h
    · rename_i k k' h1 h2
      obtain ⟨rfl, rfl⟩ := some_pair h
      obtain ⟨k0, n, hx, e⟩ := i1_inv hr
      simp only [Option.some.injEq] at e; subst e
      simp [execOp, hx, convert, run_underlying' h1, run_underlying' h2, Conv.intToInt]
    · rename_i h1 h2
      obtain ⟨rfl, rfl⟩ := some_pair h
      obtain ⟨s, hx, e⟩ := z1_inv hr
      simp only [Option.some.injEq] at e; subst e
      simp [execOp, hx, convert, run_underlying' h1, run_underlying' h2]
    · rename_i e h1 h2
      split at h
      · rename_i he
        obtain ⟨rfl, rfl⟩ := some_pair h
        have he' : P.underlying e = some (.int .u8) := he
        obtain ⟨a, n, c, hx, e⟩ := s1_inv hr
        obtain ⟨l, hl, e⟩ := Option.bind_eq_some_iff.1 e
        obtain ⟨bs, hb, rfl⟩ := Option.map_eq_some_iff.1 e
        cases a with
        | none =>
          simp only [ldS, Option.some.injEq] at hl; subst hl
          simp only [bytesIn, Option.some.injEq] at hb; subst hb
          simp only [execOp, hx, convert, Sem.run_bind, run_underlying' h1, run_underlying' h2, Result.andThen_ok, run_underlying' he', Conv.bytesToString, Sem.run_pure]
          rfl
        | some a =>
          simp only [ldS] at hl
          have := bytes_run (P := P) hl hb hw (k := c)
          simp only [execOp, hx, convert, Sem.run_bind, run_underlying' h1, run_underlying' h2, Result.andThen_ok, run_underlying' he', this, Sem.run_pure]
      · cases h
    · rename_i e h1 h2
      split at h
      · obtain ⟨rfl, rfl⟩ := some_pair h; simp [RO.quiet] at hq
      · cases h
    · cases h
  case field t x f =>
    split at h
    · rename_i fields hu
      obtain ⟨fl, hf, h⟩ := Option.bind_eq_some_iff.1 h
      split at h
      · rename_i hp
        obtain ⟨rfl, rfl⟩ := some_pair h
        obtain ⟨cs, hx, e⟩ := g1_inv hr
        simp [execOp, Instr.field, run_underlying' hu, hf, hx, asAgg, run_part1 hp e]
      · split at h
        · rename_i hp
          obtain ⟨i, hi, h⟩ := Option.map_eq_some_iff.1 h
          obtain ⟨rfl, rfl⟩ := Prod.mk.injEq .. ▸ h
          obtain ⟨cs, hx, e⟩ := g1_inv hr
          simp only [Option.some.injEq] at e; subst e
          simp [execOp, Instr.field, run_underlying' hu, hf, hx, asAgg, run_parta hp hi]
        · cases h
    · cases h
  case extract x i =>
    obtain ⟨rfl, rfl⟩ := some_pair h
    obtain ⟨vs, hx, e⟩ := t1_inv hr
    simp [execOp, Instr.extract, hx, e]
  case makeSlice t l c =>
    split at h
    · obtain ⟨i, hi, h⟩ := Option.bind_eq_some_iff.1 h
      obtain ⟨z, hz, h⟩ := Option.bind_eq_some_iff.1 h
      split at h
      · obtain ⟨rfl, rfl⟩ := some_pair h; simp [RO.quiet] at hq
      · cases h
    · cases h
  case build t parts =>
    have := build_quiet (w := w) h hr
    obtain ⟨parts⟩ := parts
    simp only [execOp, List.map_toArray, Sem.run_bind, this, Result.andThen_ok, Sem.run_pure]
  case buildSlice t len parts =>
    unfold resBuildSlice at h
    split at h
    · obtain ⟨i, hi, h⟩ := Option.bind_eq_some_iff.1 h
      obtain ⟨z, hz, h⟩ := Option.bind_eq_some_iff.1 h
      split at h
      · obtain ⟨rfl, rfl⟩ := some_pair h; simp [RO.quiet] at hq
      · cases h
    · cases h
  case slice t x lo hi mx =>
    cases mx with
    | none =>
      simp only [Option.isNone_none, if_true] at h
      have := slice_quiet (w := w) h hr
      simp [execOp, this]
    | some mx =>
      simp only [Option.isNone_some, Bool.false_eq_true, if_false] at h
      have := slice3_quiet (w := w) h hr
      simp only [Option.map_some] at this
      simp [execOp, this]
  case index t x i =>
    split at h
    · rename_i n e hu
      split at h
      · rename_i hp
        obtain ⟨j, hj, h⟩ := Option.map_eq_some_iff.1 h
        obtain ⟨rfl, rfl⟩ := Prod.mk.injEq .. ▸ h
        obtain ⟨cs, hx, e⟩ := g1_inv hr
        obtain ⟨k, i, hi, e⟩ := i1_inv e
        split at e
        · rename_i hb
          simp [execOp, Instr.index, hx, hi, asIntOf, run_underlying' hu, hb, run_sizeOf' hj, run_part1 hp e]
        · cases e
      · split at h
        · rename_i hp
          obtain ⟨j, hj, h⟩ := Option.map_eq_some_iff.1 h
          obtain ⟨rfl, rfl⟩ := Prod.mk.injEq .. ▸ h
          obtain ⟨cs, hx, e⟩ := g1_inv hr
          obtain ⟨k, i, hi, e⟩ := i1_inv e
          split at e
          · rename_i hb
            simp only [Option.some.injEq] at e; subst e
            simp [execOp, Instr.index, hx, hi, asIntOf, run_underlying' hu, hb, run_sizeOf' hj, run_parta hp hj]
          · cases e
        · cases h
    · rename_i hu
      obtain ⟨rfl, rfl⟩ := some_pair h
      obtain ⟨s, hx, e⟩ := z1_inv hr
      obtain ⟨k, i, hi, e⟩ := i1_inv e
      split at e
      · rename_i hb
        obtain ⟨b, hb', rfl⟩ := Option.map_eq_some_iff.1 e
        simp [execOp, Instr.index, hx, hi, asIntOf, run_underlying' hu, hb, hb']
      · cases e
    · cases h
  case makeFunc fn first captured =>
    obtain ⟨rfl, rfl⟩ := some_pair h
    have hr : some (Value.func fn (((first.toList ++ captured.toList).map ρ).take first.size).toArray (((first.toList ++ captured.toList).map ρ).drop first.size).toArray) = some v := hr
    simp only [Option.some.injEq] at hr; subst hr
    have e1 : ((first.toList ++ captured.toList).map ρ).take first.size = (first.map ρ).toList := by simp
    have e2 : ((first.toList ++ captured.toList).map ρ).drop first.size = (captured.map ρ).toList := by simp
    rw [e1, e2, Array.toArray_toList, Array.toArray_toList]
    simp only [execOp, Instr.makeFunc, Sem.run_bind, Sem.run_pure, Result.andThen_ok]
  case makeMap t r => 
    split at h
    · obtain ⟨rfl, rfl⟩ := some_pair h; simp [RO.quiet] at hq
    · cases h
  case lookup t x i ok =>
    have := lookup_quiet (w := w) h hr hw
    simp [execOp, this]
  case mapUpdate t a k x => obtain ⟨z, hz, h⟩ := Option.map_eq_some_iff.1 h; obtain ⟨rfl, rfl⟩ := Prod.mk.injEq .. ▸ h; simp [RO.quiet] at hq
  case insert t a k x => obtain ⟨z, hz, h⟩ := Option.map_eq_some_iff.1 h; obtain ⟨rfl, rfl⟩ := Prod.mk.injEq .. ▸ h; simp [RO.quiet] at hq
  case range t x =>
    split at h
    · obtain ⟨rfl, rfl⟩ := some_pair h; simp [RO.quiet] at hq
    · cases h
  case next it isS =>
    split at h
    · cases h
    · obtain ⟨rfl, rfl⟩ := some_pair h; simp [RO.quiet] at hq
  case entry it =>
    obtain ⟨rfl, rfl⟩ := some_pair h
    have := entry_quiet (P := P) hr hw
    simp only [execOp, Sem.run_bind, this, Result.andThen_ok, Sem.run_pure]

end sound
end Go.Fw
