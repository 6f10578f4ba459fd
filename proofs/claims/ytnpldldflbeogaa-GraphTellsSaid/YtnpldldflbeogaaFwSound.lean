import Derived.Test.YtnpldldflbeogaaFwRes
namespace Go.Fw
section sound
variable {P : Program} {ro : RO} {xl : List Operand} {m : Mem} {w : World} {ρ : Operand → Value} {v : Value}

theorem len_quiet {ats : Array TypeId} {args : List Operand} {ty : TypeId} (h : resLen P ats args = some (ro, xl)) (hr : rd ro (xl.map ρ) m = some v) :
    (Builtin.len_ ats ty (args.map ρ).toArray).run P w = .ok v w := by
  unfold resLen at h
  split at h
  · obtain ⟨rfl, rfl⟩ := some_pair h
    rename_i e hu
    obtain ⟨t, ht, hu⟩ := Option.bind_eq_some_iff.1 hu
    match args, hr with
    | [x], hr =>
      obtain ⟨a, n, c, hx, e⟩ := s1_inv hr
      simp only [Option.some.injEq] at e; subst e
      simp [Builtin.len_, ht, hx, run_underlying' hu, goInt]
    | [], hr => simp [rd, rdp, RO.reads] at hr
    | _ :: _ :: _, hr => simp [rd, rdp, RO.reads] at hr
  · obtain ⟨rfl, rfl⟩ := some_pair h
    rename_i hu
    obtain ⟨t, ht, hu⟩ := Option.bind_eq_some_iff.1 hu
    match args, hr with
    | [x], hr =>
      obtain ⟨s, hx, e⟩ := z1_inv hr
      simp only [Option.some.injEq] at e; subst e
      simp [Builtin.len_, ht, hx, run_underlying' hu, goInt]
    | [], hr => simp [rd, rdp, RO.reads] at hr
    | _ :: _ :: _, hr => simp [rd, rdp, RO.reads] at hr
  · cases h

theorem two_inv {ro0 : RO} {args : List Operand} (h : two ro0 args = some (ro, xl)) : ro = ro0 ∧ xl = args ∧ ∃ a b, args = [a, b] := by
  unfold two at h
  split at h
  · rename_i hl
    obtain ⟨rfl, rfl⟩ := some_pair h
    match args, hl with
    | [a, b], _ => exact ⟨rfl, rfl, a, b, rfl⟩
  · cases h

theorem call_quiet {o : Oper} {c : Call} (ho : o.op = .call c) (h : resCall P c c.args.toList = some (ro, xl)) (hq : ro.quiet = true) (hr : rd ro (xl.map ρ) m = some v) :
    (execOp ρ o).run P w = .ok (.value v) w := by
  obtain ⟨callee, args, argTypes⟩ := c
  obtain ⟨args⟩ := args
  simp only [resCall] at h
  cases callee with
  | invoke r n => cases h
  | value f =>
    simp only [resVal] at h
    cases f with
    | func f =>
      simp only at h
      obtain ⟨fn, hf, h⟩ := Option.bind_eq_some_iff.1 h
      split at h
      · obtain ⟨rfl, rfl⟩ := some_pair h; simp [RO.quiet] at hq
      · cases h
    | _ => cases h
  | builtin b =>
    simp only [resBuiltin] at h
    split at h
    · have := len_quiet (w := w) (ty := o.type) h hr
      simp only [execOp, ho, resolve, List.map_toArray, Sem.run_bind, Sem.run_pure, Result.andThen_ok, invoke, builtin, this]
    · unfold resApp at h
      split at h
      · split at h
        · obtain ⟨i, hi, h⟩ := Option.bind_eq_some_iff.1 h
          obtain ⟨z, hz, h⟩ := Option.bind_eq_some_iff.1 h
          split at h
          · obtain ⟨rfl, rfl⟩ := some_pair h; simp [RO.quiet] at hq
          · cases h
        · obtain ⟨i, hi, h⟩ := Option.bind_eq_some_iff.1 h
          split at h
          · obtain ⟨rfl, rfl⟩ := some_pair h; simp [RO.quiet] at hq
          · cases h
        · cases h
      · cases h
    · unfold resCopy at h
      split at h
      · obtain ⟨i, hi, h⟩ := Option.map_eq_some_iff.1 h
        obtain ⟨rfl, rfl⟩ := Prod.mk.injEq .. ▸ h; simp [RO.quiet] at hq
      · cases h
    · obtain ⟨rfl, rfl, x, y, rfl⟩ := two_inv h
      obtain ⟨k, a, b, hx, hy, e⟩ := i2_inv hr
      simp only [Option.some.injEq] at e; subst e
      simp [execOp, ho, resolve, invoke, builtin, Builtin.min_, Builtin.min2, hx, hy]
    · obtain ⟨rfl, rfl, x, y, rfl⟩ := two_inv h
      obtain ⟨k, a, b, hx, hy, e⟩ := i2_inv hr
      simp only [Option.some.injEq] at e; subst e
      simp [execOp, ho, resolve, invoke, builtin, Builtin.max_, Builtin.max2, hx, hy]
    · cases h

theorem run_places : ∀ (fs : List Field), (fs.all fun f => (P.info? f.type).isSome) = true → (fs.mapM (fun f => do pure (f.offset, ← Go.sizeOf f.type) : Field → Sem (Nat × Nat))).run P w = .ok (fs.map fun f => (f.offset, ((P.info? f.type).map (·.size)).getD 0)) w
  | [], _ => rfl
  | f :: fs, h => by
    simp only [List.all_cons, Bool.and_eq_true] at h
    obtain ⟨i, hi⟩ := Option.isSome_iff_exists.1 h.1
    have ih := run_places fs h.2
    simp only [List.mapM_cons, Sem.run_bind, run_sizeOf' hi, Result.andThen_ok, Sem.run_pure, ih, List.map_cons, hi, Option.map_some, Option.getD_some]

theorem places_map {fields : Array Field} : ∀ {l : List Nat} {ps : List (Nat × Nat)}, placesOf P l fields = some ps →
    (l.map fun i => (fields.map fun f => (f.offset, ((P.info? f.type).map (·.size)).getD 0))[i]?) = ps.map some
  | [], ps, h => by simp only [placesOf, List.mapM_nil, pure, Option.some.injEq] at h; subst h; rfl
  | i :: l, ps, h => by
    simp only [placesOf, List.mapM_cons, bind, pure, Option.bind_eq_some_iff, Option.some.injEq] at h
    obtain ⟨p, ⟨f, hf, hp⟩, r, hr, rfl⟩ := h
    obtain ⟨j, hj, rfl⟩ := Option.map_eq_some_iff.1 hp
    simp only [List.map_cons, Array.getElem?_map, hf, Option.map_some, hj, Option.getD_some]
    congr 1
    have := places_map (l := l) (ps := r) (by simpa [placesOf, bind, pure] using hr)
    simpa using this

theorem build_quiet {t : TypeId} {parts : List (Nat × Operand)} (h : resBuild P t parts = some (ro, xl)) (hr : rd ro (xl.map ρ) m = some v) :
    (Instr.build t ((parts.map fun (i, x) => (i, ρ x)).toArray)).run P w = .ok v w := by
  unfold resBuild at h
  obtain ⟨⟨z, n⟩, hz, h⟩ := Option.bind_eq_some_iff.1 h
  unfold zeroOf at hz
  obtain ⟨i, hi, hz⟩ := Option.bind_eq_some_iff.1 hz
  obtain ⟨z', hz', e⟩ := Option.map_eq_some_iff.1 hz
  simp only [Prod.mk.injEq] at e
  obtain ⟨rfl, rfl⟩ := e
  have hzero : (zeroValue t).run P w = .ok z' w := by simp [zeroValue, run_typeInfo' hi, hz']
  split at h
  · rename_i fields hu
    split at h
    case isFalse => cases h
    rename_i hf
    obtain ⟨ps, hps, h⟩ := Option.map_eq_some_iff.1 h
    obtain ⟨rfl, rfl⟩ := Prod.mk.injEq .. ▸ h
    obtain ⟨l, hl, rfl⟩ := Option.map_eq_some_iff.1 hr
    have hpl := run_places (P := P) (w := w) fields.toList (by
      unfold fieldsIn at hf
      rw [← Array.all_toList] at hf
      exact hf)
    have hm := places_map hps
    have hfill := fill_lay (fun i : Nat => (fields.map fun f => (f.offset, ((P.info? f.type).map (·.size)).getD 0))[i]?) (parts.map fun (i, x) => (i, ρ x)) ps z'.cells l
      (by rw [List.map_map, ← hm, List.map_map]; rfl) (by rw [List.map_map]; rw [List.map_map] at hl; exact hl)
    simp only [Instr.build, Sem.run_bind, hzero, Result.andThen_ok, run_underlying' hu]
    rw [Array.mapM_eq_mapM_toList]
    simp only [Sem.run_map, hpl, Result.andThen_ok]
    have e1 : (fun i : Nat => (List.map (fun f => (f.offset, ((P.info? f.type).map (·.size)).getD 0)) fields.toList).toArray[i]?) = fun i : Nat => (fields.map fun f => (f.offset, ((P.info? f.type).map (·.size)).getD 0))[i]? := by
      funext i; simp
    rw [e1]
    simp only [hfill] at *
    first | rfl | (rw [hfill]; rfl)
  · rename_i k e hu
    obtain ⟨j, hj, h⟩ := Option.map_eq_some_iff.1 h
    obtain ⟨rfl, rfl⟩ := Prod.mk.injEq .. ▸ h
    obtain ⟨l, hl, rfl⟩ := Option.map_eq_some_iff.1 hr
    have hfill := fill_lay (fun i => some (i * j.size, j.size)) (parts.map fun (i, x) => (i, ρ x)) (parts.map fun p => (p.1 * j.size, j.size)) z'.cells l
      (by simp [List.map_map]) (by rw [List.map_map]; rw [List.map_map] at hl; exact hl)
    simp [Instr.build, hzero, run_underlying' hu, run_sizeOf' hj, hfill]
  · cases h

theorem res_quiet {o : Oper} (h : res P o = some (ro, xl)) (hq : ro.quiet = true) (hr : rd ro (xl.map ρ) m = some v) (hw : absM w = m) :
    (execOp ρ o).run P w = .ok (.value v) w := by
  obtain ⟨dst, op, type, pos, after, guard⟩ := o
  cases op <;> simp only [res, reduceCtorEq] at h
  case call c => exact call_quiet rfl h hq hr
  case binOp op t x y u =>
    have := bin_quiet (w := w) h hr
    simp only [Sem.run_bind] at this
    simp only [execOp, Sem.run_bind, this]
    rfl
  case move x => obtain ⟨rfl, rfl⟩ := some_pair h; simp only [List.map_cons, List.map_nil, rd, rdp, RO.reads, Option.some.injEq] at hr; subst hr; simp [execOp]
  case assign x => obtain ⟨rfl, rfl⟩ := some_pair h; simp only [List.map_cons, List.map_nil, rd, rdp, RO.reads, Option.some.injEq] at hr; subst hr; simp [execOp]
  case pick c a b =>
    obtain ⟨rfl, rfl⟩ := some_pair h
    obtain ⟨t, hx, e⟩ := b1_inv hr
    simp only [Option.some.injEq] at e; subst e
    cases t <;> simp [execOp, hx, asBool]
  case nilCheck x =>
    obtain ⟨rfl, rfl⟩ := some_pair h
    obtain ⟨a, hx, e⟩ := p1_inv hr
    simp only [Option.some.injEq] at e; subst e
    simp [execOp, hx]
  case fieldAddr s x f =>
    split at h
    · rename_i fields hu
      obtain ⟨fl, hf, h⟩ := Option.bind_eq_some_iff.1 h
      obtain ⟨i, hi, h⟩ := Option.bind_eq_some_iff.1 h
      split at h
      · cases h
      · rename_i hz
        obtain ⟨rfl, rfl⟩ := some_pair h
        obtain ⟨a, hx, e⟩ := p1_inv hr
        simp only [Option.some.injEq] at e; subst e
        simp [execOp, Instr.fieldAt, run_underlying' hu, hf, hx, Instr.sureAddr, fieldPlace, run_sizeOf' hi, hz]
    · cases h
  case indexAddr t x i =>
    split at h
    · rename_i e hu
      obtain ⟨j, hj, h⟩ := Option.map_eq_some_iff.1 h
      obtain ⟨rfl, rfl⟩ := Prod.mk.injEq .. ▸ h
      obtain ⟨a, n, c, hx, e⟩ := s1_inv hr
      obtain ⟨k, i, hi, e⟩ := i1_inv e
      split at e
      · rename_i hb
        cases a with
        | none => simp at e
        | some a =>
          simp only [Option.map_some, Option.some.injEq] at e; subst e
          simp [execOp, Instr.indexAt, run_underlying' hu, hx, hi, asIntOf, run_sizeOf' hj, hb]
      · cases e
    · rename_i n e hu
      obtain ⟨j, hj, h⟩ := Option.map_eq_some_iff.1 h
      obtain ⟨rfl, rfl⟩ := Prod.mk.injEq .. ▸ h
      obtain ⟨a, hx, e⟩ := p1_inv hr
      obtain ⟨k, i, hi, e⟩ := i1_inv e
      split at e
      · rename_i hb
        simp only [Option.some.injEq] at e; subst e
        simp [execOp, Instr.indexAt, run_underlying' hu, hx, hi, asIntOf, run_sizeOf' hj, hb, Instr.sureAddr]
      · cases e
    · cases h
  case load t x =>
    split at h
    · rename_i hp
      obtain ⟨rfl, rfl⟩ := some_pair h
      obtain ⟨a, hx, e⟩ := p1_inv hr
      simp [execOp, Instr.loadAt, hx, Instr.sureAddr, loadVar, isAgg_plain hp, run_load_cell hw e, -run_load]
    · split at h
      · rename_i hp
        obtain ⟨i, hi, h⟩ := Option.map_eq_some_iff.1 h
        obtain ⟨rfl, rfl⟩ := Prod.mk.injEq .. ▸ h
        obtain ⟨a, hx, e⟩ := p1_inv hr
        obtain ⟨l, hl, rfl⟩ := Option.map_eq_some_iff.1 e
        simp [execOp, Instr.loadAt, hx, Instr.sureAddr, loadVar, isAgg_agg hp, run_sizeOf' hi, loadCells, run_loadCellsFrom hw a _ _ _ _ hl]
      · cases h
  case store t a x => obtain ⟨i, hi, h⟩ := Option.map_eq_some_iff.1 h; obtain ⟨rfl, rfl⟩ := Prod.mk.injEq .. ▸ h; simp [RO.quiet] at hq
  case alloc t => obtain ⟨i, hi, h⟩ := Option.map_eq_some_iff.1 h; obtain ⟨rfl, rfl⟩ := Prod.mk.injEq .. ▸ h; simp [RO.quiet] at hq
  case box t x => obtain ⟨rfl, rfl⟩ := some_pair h; simp [RO.quiet] at hq
  case unOp op t x =>
    cases op <;> simp only [resUn, reduceCtorEq] at h
    · split at h
      · obtain ⟨rfl, rfl⟩ := some_pair h
        obtain ⟨k, n, hx, e⟩ := i1_inv hr
        simp only [Option.some.injEq] at e; subst e
        simp [execOp, hx, Op.unary, Op.intArith]
      · cases h
    · obtain ⟨rfl, rfl⟩ := some_pair h
      obtain ⟨b, hx, e⟩ := b1_inv hr
      simp only [Option.some.injEq] at e; subst e
      simp [execOp, hx, Op.unary]
  case convert s d x =>
    split at h
    · rename_i k k' h1 h2
      obtain ⟨rfl, rfl⟩ := some_pair h
      obtain ⟨k0, n, hx, e⟩ := i1_inv hr
      simp only [Option.some.injEq] at e; subst e
      simp [execOp, hx, convert, run_underlying' h1, run_underlying' h2, Conv.intToInt]
    · cases h
  case field t x f =>
    split at h
    · rename_i fields hu
      obtain ⟨fl, hf, h⟩ := Option.bind_eq_some_iff.1 h
      split at h
      · rename_i hp
        obtain ⟨rfl, rfl⟩ := some_pair h
        obtain ⟨cs, hx, e⟩ := g1_inv hr
        simp [execOp, Instr.field, run_underlying' hu, hf, hx, asAgg, run_part1 hp e]
      · split at h
        · rename_i hp
          obtain ⟨i, hi, h⟩ := Option.map_eq_some_iff.1 h
          obtain ⟨rfl, rfl⟩ := Prod.mk.injEq .. ▸ h
          obtain ⟨cs, hx, e⟩ := g1_inv hr
          simp only [Option.some.injEq] at e; subst e
          simp [execOp, Instr.field, run_underlying' hu, hf, hx, asAgg, run_parta hp hi]
        · cases h
    · cases h
  case extract x i =>
    obtain ⟨rfl, rfl⟩ := some_pair h
    obtain ⟨vs, hx, e⟩ := t1_inv hr
    simp [execOp, Instr.extract, hx, e]
  case makeSlice t l c =>
    split at h
    · obtain ⟨i, hi, h⟩ := Option.bind_eq_some_iff.1 h
      obtain ⟨z, hz, h⟩ := Option.bind_eq_some_iff.1 h
      split at h
      · obtain ⟨rfl, rfl⟩ := some_pair h; simp [RO.quiet] at hq
      · cases h
    · cases h
  case build t parts =>
    have := build_quiet (w := w) h hr
    obtain ⟨parts⟩ := parts
    simp only [execOp, List.map_toArray, Sem.run_bind, this, Result.andThen_ok, Sem.run_pure]
  case buildSlice t len parts =>
    unfold resBuildSlice at h
    split at h
    · obtain ⟨i, hi, h⟩ := Option.bind_eq_some_iff.1 h
      obtain ⟨z, hz, h⟩ := Option.bind_eq_some_iff.1 h
      split at h
      · obtain ⟨rfl, rfl⟩ := some_pair h; simp [RO.quiet] at hq
      · cases h
    · cases h
  case slice t x lo hi mx =>
    cases mx with
    | none =>
      simp only [Option.isNone_none, if_true] at h
      have := slice_quiet (w := w) h hr
      simp [execOp, this]
    | some _ => simp at h

end sound
end Go.Fw
