import Derived.Test.YtadkdbnikmkgfaaFvSound
import Derived.Laws.Append
namespace Go.Fw

def XUpon (P : Program) (w : World) (K : Value → Mem → Prop) : Result Next → Prop
  | .ok (.value v) w' => Side w w' ∧ K v (absM w')
  | .ok .skip w' => Side w w' ∧ K undef (absM w')
  | .ok (.enter f args) w' => Side w w' ∧ Calls P f args w' fun e w'' => ∃ v, e = .returned v ∧ Side w' w'' ∧ K v (absM w'')
  | _ => False

def XStep (P : Program) (o : Oper) (ρ : Operand → Value) (m : Mem) (K : Value → Mem → Prop) : Prop :=
  ∀ w, absM w = m → XUpon P w K ((execOp ρ o).run P w)

section sound
variable {P : Program} {ro : RO} {xl : List Operand} {m m' : Mem} {w : World} {ρ : Operand → Value} {K : Value → Mem → Prop}

theorem absM_none (w : World) : absM w w.heap.size = none := by simp [absM]
theorem absM_push (w : World) (o : Obj) : absM { w with heap := w.heap.push o } = (absM w).set w.heap.size o := by
  funext b
  simp only [absM, Mem.set, Array.getElem?_push]
theorem side_any (w : World) (o : Obj) : Side w { w with heap := w.heap.push o } := ⟨rfl, rfl, by simp, rfl, Nat.le_refl _⟩
theorem side_push (w : World) (c : Array Value) (t : TypeId) : Side w { w with heap := w.heap.push (.cells c t) } := ⟨rfl, rfl, by simp, rfl, Nat.le_refl _⟩
theorem side_drew (w : World) (n : Nat) (h : w.drawn ≤ n) : Side w { w with drawn := n } := ⟨rfl, rfl, Nat.le_refl _, rfl, h⟩
theorem absM_drew (w : World) (n : Nat) : absM { w with drawn := n } = absM w := rfl

theorem absM_setCell {w : World} {a : Addr} {v : Value} {m' : Mem} (h : putC (absM w) a v = some m') :
    absM (w.setCell a v) = m' ∧ Side w (w.setCell a v) ∧ (∃ u, w.cell? a = some u) ∧ w.frozen? a = false := by
  unfold putC at h
  split at h
  · rename_i c t fr hb
    split at h
    · cases h
    · rename_i hc
      simp only [Option.some.injEq] at h; subst h
      simp only [Bool.or_eq_true, Bool.and_eq_true, Bool.not_eq_true', not_or, decide_eq_true_eq, decide_eq_false_iff_not, Decidable.not_not] at hc
      obtain ⟨⟨hs, hlt⟩, hfr⟩ := hc
      have hs' : a.spot.isSome = false := by simpa using hs
      have hb' : w.heap[a.block]? = some (.cells c t fr) := hb
      refine ⟨?_, ⟨rfl, rfl, by simp [World.setCell], rfl, Nat.le_refl _⟩, ⟨c[a.off], ?_⟩, ?_⟩
      · funext b
        simp only [absM, World.setCell, Mem.set, Array.getElem?_modify]
        by_cases e : b = a.block
        · subst e; simp [hb', hs']
        · rw [if_neg (fun h => e h.symm), if_neg e]
      · simp only [World.cell?, hb', hs', Bool.false_eq_true, if_false]
        exact Array.getElem?_eq_getElem hlt
      · simp only [World.frozen?, hb']
        simpa using hfr
  · cases h

theorem run_storeCells (a : Addr) : ∀ (l : List Value) (i : Nat) (w : World) (m' : Mem), stCells (absM w) a i l = some m' →
    ∃ w', (storeCells a l i).run P w = .ok () w' ∧ absM w' = m' ∧ Side w w'
  | [], i, w, m', h => by simp only [stCells, Option.some.injEq] at h; subst h; exact ⟨w, by simp [storeCells], rfl, Side.rfl' w⟩
  | v :: r, i, w, m', h => by
    simp only [stCells] at h
    split at h
    · rename_i hv
      obtain ⟨m1, h1, h2⟩ := Option.bind_eq_some_iff.1 h
      obtain ⟨e1, s1, ⟨u, hu⟩, hf⟩ := absM_setCell h1
      rw [← e1] at h2
      obtain ⟨w', hr, e2, s2⟩ := run_storeCells a r (i + 1) (w.setCell (a.add i) v) m' h2
      refine ⟨w', ?_, e2, s1.trans s2⟩
      have hst : (store (a.add i) v).run P w = .ok () (w.setCell (a.add i) v) := by rw [run_store P w _ v _ hv, hu]; simp [hf]
      simp only [storeCells, Sem.run_bind, hst, Result.andThen_ok, hr]
    · cases h

theorem run_zeroValue' {t : TypeId} {i : TypeInfo} {z : Value} (h : P.info? t = some i) (hz : i.zero = some z) : (zeroValue t).run P w = .ok z w := by
  simp [zeroValue, run_typeInfo' h, hz]

theorem wrap_i64 {n : Int} (h0 : -9223372036854775808 ≤ n) (h1 : n ≤ 9223372036854775807) : IntKind.i64.wrap n = n := by
  simp only [IntKind.wrap, IntKind.bits, IntKind.signed, Bool.true_and]
  by_cases h : n % 2 ^ 64 ≥ 2 ^ 63
  · rw [if_pos (by simpa using h)]; omega
  · rw [if_neg (by simpa using h)]; omega

theorem madeCells_eq (z : Array Value) (n : Nat) (_hz : 0 < z.size) : (Array.range (n * z.size)).map (fun i => z[i % z.size]!) = (List.replicate n z.toList).flatten.toArray := by
  apply Array.ext'
  simp only [Array.toList_map, Array.toList_range]
  induction n with
  | zero => simp
  | succ n ih =>
    rw [Nat.succ_mul, List.range_add, List.map_append, ih, List.replicate_succ', List.flatten_append]
    congr 1
    simp only [List.map_map, List.flatten_cons, List.flatten_nil, List.append_nil]
    apply List.ext_getElem
    · simp
    · intro i h1 h2
      simp only [List.length_map, List.length_range] at h1
      simp [Nat.mod_eq_of_lt h1, h1]

theorem zeroCells_eq (z : Array Value) (n : Nat) : Builtin.zeroCells z n = (List.replicate n z.toList).flatten.toArray := by
  by_cases hz : 0 < z.size
  · exact madeCells_eq z n hz
  · have h0 : z.size = 0 := by omega
    have h1 : z.toList = [] := List.eq_nil_of_length_eq_zero (by simpa using h0)
    have h2 : (List.replicate n ([] : List Value)).flatten = [] := by simp
    rw [h1, h2]
    apply Array.eq_empty_of_size_eq_zero
    simp [Builtin.zeroCells, h0]

theorem add_add (a : Addr) (i j : Nat) : (a.add i).add j = a.add (i + j) := by
  unfold Addr.add
  by_cases hi : i = 0 <;> by_cases hj : j = 0 <;> simp [hi, hj, Nat.add_assoc]
theorem stCells_add' (a : Addr) (n : Nat) : ∀ (l : List Value) (m : Mem) (i : Nat), stCells m (a.add n) i l = stCells m a (n + i) l
  | [], m, i => rfl
  | v :: r, m, i => by
    simp only [stCells, add_add]
    split
    · congr 1; funext m'; rw [stCells_add' a n r m' (i + 1)]; rfl
    · rfl
theorem stCells_add (m : Mem) (a : Addr) (n : Nat) (l : List Value) : stCells m (a.add n) 0 l = stCells m a n l := stCells_add' a n l m 0

/-- append, at whatever it is given -/
theorem run_append {t e : TypeId} {i : TypeInfo} {z : Value} (hu : P.underlying t = some (.slice e)) (hi : P.info? e = some i) (hz : i.zero = some z) (_hsz : z.cells.size = i.size) (_hpos : 0 < i.size)
    {y : Value} {k : Nat} {news : List Value} (hlen : (match y with | .slice _ n _ => some n | .string s => some s.size | _ => none) = some k)
    (hfirst : ∀ w, absM w = m → (Builtin.firstCells i.size k y).run P w = .ok news.toArray w) {ats : Array TypeId} {at1 : TypeId} (h0 : ats[0]? = some t) (h1 : ats[1]? = some at1)
    {d1 : TypeDesc} (hu1 : P.underlying at1 = some d1) (hnz : d1 = .string ∨ ∃ e', d1 = .slice e') {ty : TypeId} {base : Option Addr} {n cap : Nat} (hw : absM w = m) (hx : appP i.size i.bytes z.cells.toList e m K base n cap news k) :
    ∃ v' w', (Builtin.append_ ats ty #[.slice base n cap, y]).run P w = .ok v' w' ∧ Side w w' ∧ K v' (absM w') := by
  obtain ⟨hb, h62, hin, hgrow⟩ := hx
  have hlenOf : (Builtin.lenOf y).run P w = .ok k w := by
    cases y <;> simp at hlen <;> simp [Builtin.lenOf, hlen]
  have hzr : (do pure ((← underlying at1) matches .int _) : Sem Bool).run P w = .ok false w := by
    rcases hnz with rfl | ⟨e', rfl⟩ <;> simp [run_underlying' hu1]
  by_cases hc : n + k ≤ cap
  · have hin := hin hc
    cases base with
    | none =>
      refine ⟨.slice none (n + k) cap, w, ?_, Side.rfl' w, by rw [hw]; exact hin⟩
      rcases hnz with rfl | ⟨e', rfl⟩ <;>
        simp [Builtin.append_, h0, h1, run_underlying' hu, run_underlying' hu1, run_sizeOf' hi, hlenOf, hc, hfirst w hw]
    | some a =>
      obtain ⟨m', hst, hk⟩ := hin
      subst hw
      obtain ⟨w', hrs, he, hs⟩ := run_storeCells (P := P) (a.add (n * i.size)) news 0 w m' (by rw [← hst]; exact stCells_add _ _ _ _)
      refine ⟨.slice (some a) (n + k) cap, w', ?_, hs, by rw [he]; exact hk⟩
      rcases hnz with rfl | ⟨e', rfl⟩ <;>
        simp [Builtin.append_, h0, h1, run_underlying' hu, run_underlying' hu1, run_sizeOf' hi, hlenOf, hc, hfirst w rfl, hrs]
  · have hlt : cap < n + k := by omega
    obtain ⟨old, hold, hk⟩ := hgrow hlt
    have hfit := growslice_fits hlt hb
    have hold' : ∀ w2, absM w2 = m → (Builtin.firstCells i.size n (.slice base n cap)).run P w2 = .ok old.toArray w2 := fun w2 hw2 => by
      cases base with
      | none => simp only [ldS, Option.some.injEq] at hold; subst hold; simp [Builtin.firstCells]
      | some b => simp only [ldS] at hold; simp [Builtin.firstCells, loadCells, run_loadCellsFrom hw2 b _ 0 _ _ hold]
    have hz' : ∀ w2, (zeroValue e).run P w2 = .ok z w2 := fun w2 => run_zeroValue' (P := P) (w := w2) hi hz
    let q := Question.appendCap (n + k) cap e
    let w2 : World := { w with drawn := w.drawn + 1 }
    let nc := q.cut (w.tape w.drawn q)
    have hnc : n + k ≤ nc := by simp only [nc, q, Question.cut]; omega
    have hcells := zeroCells_eq z.cells (nc - (n + k))
    have hfin := hk nc w.heap.size hnc (by rw [← hw]; exact absM_none w)
    refine ⟨.slice (some ⟨w.heap.size, 0, none⟩) (n + k) nc, { w2 with heap := w2.heap.push (.cells (old ++ news ++ (List.replicate (nc - (n + k)) z.cells.toList).flatten).toArray e) }, ?_, ⟨rfl, rfl, by simp [w2], rfl, Nat.le_succ _⟩, ?_⟩
    · have hnot : ¬ (281474976710656 < Builtin.nextslicecap (n + k) cap * i.bytes) := by omega
      have h63 : ¬ (9223372036854775807 < (n : Int) + k ∧ i.bytes = 0) := by omega
      have hold2 := hold' w2 hw
      have hfirst2 := hfirst w2 hw
      have hcap : (choose q).run P w = .ok nc w2 := by simp [q, nc, w2, Question.forced]
      simp only [q] at hcap
      rcases hnz with rfl | ⟨e', rfl⟩ <;>
        simp [Builtin.append_, h0, h1, run_underlying' hu, run_underlying' hu1, run_sizeOf' hi, hlenOf, hc, -run_choose, hcap, hold2, hfirst2, hz', run_typeInfo' hi, newRow, hcells, hnot]
      all_goals (rw [if_neg h63])
    · rw [absM_push]
      have : absM w2 = m := hw
      rw [this]
      exact hfin

theorem append_x {o : Oper} {args : List Operand} {ats : Array TypeId} (ho : o.op = .call ⟨.builtin .append, ⟨args⟩, ats⟩) (h : resApp P ats args = some (ro, xl)) (hx : xs P ro (xl.map ρ) m K) : XStep P o ρ m K := by
  intro w hw
  unfold resApp at h
  split at h
  case h_2 => cases h
  rename_i e hu
  split at h
  · rename_i e' hu'
    obtain ⟨i, hi, h⟩ := Option.bind_eq_some_iff.1 h
    obtain ⟨z, hz, h⟩ := Option.bind_eq_some_iff.1 h
    split at h
    case isFalse => cases h
    rename_i hsz
    obtain ⟨rfl, rfl⟩ := some_pair h
    obtain ⟨t, ht, hu⟩ := Option.bind_eq_some_iff.1 hu
    obtain ⟨t', ht', hu'⟩ := Option.bind_eq_some_iff.1 hu'
    match args, hx with
    | [x, y], hx =>
      obtain ⟨base, n, cap, hxv, hx⟩ := sP_inv hx
      obtain ⟨b, k, cc, hyv, news, hnews, hx⟩ := sP_inv hx
      have := run_append (P := P) (w := w) (t := t) (e := e) hu hi hz hsz.1 hsz.2 (news := news) (y := .slice b k cc) (k := k) rfl (fun w hw => by
        cases b with
        | none => simp only [ldS, Option.some.injEq] at hnews; subst hnews; simp [Builtin.firstCells]
        | some b => simp only [ldS] at hnews; simp [Builtin.firstCells, loadCells, run_loadCellsFrom hw b _ 0 _ _ hnews]) (at1 := t') ht ht' hu' (.inr ⟨_, rfl⟩) (ty := o.type) hw hx
      obtain ⟨v', w', hr, hs, hk⟩ := this
      have hr' : (execOp ρ o).run P w = .ok (.value v') w' := by
        simp only [execOp, ho, resolve, List.map_toArray, List.map_cons, List.map_nil, Sem.run_bind, Sem.run_pure, Result.andThen_ok, invoke, builtin, hxv, hyv, hr]
      rw [hr']; exact ⟨hs, hk⟩
    | [], hx => exact hx.elim
    | [_], hx => exact hx.elim
    | _ :: _ :: _ :: _, hx => exact hx.elim
  · rename_i hu'
    obtain ⟨i, hi, h⟩ := Option.bind_eq_some_iff.1 h
    split at h
    case isFalse => cases h
    rename_i hsz
    obtain ⟨rfl, rfl⟩ := some_pair h
    obtain ⟨t, ht, hu⟩ := Option.bind_eq_some_iff.1 hu
    obtain ⟨t', ht', hu'⟩ := Option.bind_eq_some_iff.1 hu'
    have hz : i.zero = some (.int .u8 0) := by
      have := hsz.2.2
      unfold isU8 at this
      split at this
      · assumption
      · cases this
    match args, hx with
    | [x, y], hx =>
      obtain ⟨base, n, cap, hxv, hx⟩ := sP_inv hx
      obtain ⟨s, hyv, hx⟩ := zP_inv hx
      have := run_append (P := P) (w := w) (t := t) (e := e) hu hi hz (by rw [hsz.1]; rfl) (by rw [hsz.1]; omega) (news := s.data.toList.map fun c => .int .u8 c.toNat) (y := .string s) (k := s.size) rfl (fun w _ => by
        have : s.extract 0 s.size = s := by simp
        simp only [Builtin.firstCells, this, Sem.run_pure]
        congr 1
        apply Array.ext'
        simp) (at1 := t') ht ht' hu' (.inl rfl) (ty := o.type) hw (by rw [hsz.1, hsz.2.1]; exact hx)
      obtain ⟨v', w', hr, hs, hk⟩ := this
      have hr' : (execOp ρ o).run P w = .ok (.value v') w' := by
        simp only [execOp, ho, resolve, List.map_toArray, List.map_cons, List.map_nil, Sem.run_bind, Sem.run_pure, Result.andThen_ok, invoke, builtin, hxv, hyv, hr]
      rw [hr']; exact ⟨hs, hk⟩
    | [], hx => exact hx.elim
    | [_], hx => exact hx.elim
    | _ :: _ :: _ :: _, hx => exact hx.elim
  · cases h

theorem copy_x {o : Oper} {args : List Operand} {ats : Array TypeId} (ho : o.op = .call ⟨.builtin .copy, ⟨args⟩, ats⟩) (h : resCopy P ats args = some (ro, xl)) (hx : xs P ro (xl.map ρ) m K) : XStep P o ρ m K := by
  intro w hw
  unfold resCopy at h
  split at h
  case h_2 => cases h
  rename_i e hu
  obtain ⟨i, hi, h⟩ := Option.map_eq_some_iff.1 h
  obtain ⟨rfl, rfl⟩ := Prod.mk.injEq .. ▸ h
  obtain ⟨t, ht, hu⟩ := Option.bind_eq_some_iff.1 hu
  match args, hx with
  | [x, y], hx =>
    obtain ⟨base, n, cap, hxv, hx⟩ := sP_inv hx
    obtain ⟨b, k, cc, hyv, cells, hcells, hx⟩ := sP_inv hx
    have hfirst : (Builtin.firstCells i.size (min k n) (.slice b k cc)).run P w = .ok cells.toArray w := by
      cases b with
      | none => simp only [ldS, Option.some.injEq] at hcells; subst hcells; simp [Builtin.firstCells]
      | some b => simp only [ldS] at hcells; simp [Builtin.firstCells, loadCells, run_loadCellsFrom hw b _ 0 _ _ hcells]
    have hmin : k.min n = min k n := rfl
    cases base with
    | none =>
      have hr' : (execOp ρ o).run P w = .ok (.value (.int .i64 (min k n : Nat))) w := by
        simp [execOp, ho, resolve, invoke, builtin, hxv, hyv, Builtin.copy_, ht, run_underlying' hu, Builtin.lenOf, run_sizeOf' hi, hmin, hfirst, goInt]
      rw [hr']; exact ⟨Side.rfl' w, by rw [hw]; exact hx⟩
    | some a =>
      obtain ⟨m', hst, hk⟩ := hx
      subst hw
      obtain ⟨w', hrs, he, hs⟩ := run_storeCells (P := P) a cells 0 w m' hst
      have hr' : (execOp ρ o).run P w = .ok (.value (.int .i64 (min k n : Nat))) w' := by
        simp [execOp, ho, resolve, invoke, builtin, hxv, hyv, Builtin.copy_, ht, run_underlying' hu, Builtin.lenOf, run_sizeOf' hi, hmin, hfirst, goInt, hrs]
      rw [hr']; exact ⟨hs, by rw [he]; exact hk⟩
  | [], hx => exact hx.elim
  | [_], hx => exact hx.elim
  | _ :: _ :: _ :: _, hx => exact hx.elim

theorem run_setObj_map {r : Nat} {es : Array MapEntry} {c : Nat} {o : Obj} (h : absM w r = some (.map es c)) : (setObj r o).run P w = .ok () { w with heap := w.heap.setIfInBounds r o } ∧ absM { w with heap := w.heap.setIfInBounds r o } = (absM w).set r o ∧ Side w { w with heap := w.heap.setIfInBounds r o } := by
  have h' : w.heap[r]? = some (.map es c) := h
  refine ⟨by simp [setObj, Sem.run, h'], ?_, ⟨rfl, rfl, by simp, rfl, Nat.le_refl _⟩⟩
  funext x
  simp only [absM, Mem.set, Array.getElem?_setIfInBounds]
  by_cases e : x = r
  · subst e
    have hlt : x < w.heap.size := (Array.getElem?_eq_some_iff.1 h').1
    simp [hlt]
  · have : r ≠ x := fun h => e h.symm
    simp [e, this]
theorem run_setObj_iter {r : Nat} {mm : Option Nat} {a b : Nat} {s : Array Nat} {o : Obj} (h : absM w r = some (.mapIter mm a s b)) : (setObj r o).run P w = .ok () { w with heap := w.heap.setIfInBounds r o } ∧ absM { w with heap := w.heap.setIfInBounds r o } = (absM w).set r o ∧ Side w { w with heap := w.heap.setIfInBounds r o } := by
  have h' : w.heap[r]? = some (.mapIter mm a s b) := h
  refine ⟨by simp [setObj, Sem.run, h'], ?_, ⟨rfl, rfl, by simp, rfl, Nat.le_refl _⟩⟩
  funext x
  simp only [absM, Mem.set, Array.getElem?_setIfInBounds]
  by_cases e : x = r
  · subst e
    have hlt : x < w.heap.size := (Array.getElem?_eq_some_iff.1 h').1
    simp [hlt]
  · have : r ≠ x := fun h => e h.symm
    simp [e, this]
theorem run_getObj_iter {r : Nat} {mm : Option Nat} {a b : Nat} {s : Array Nat} (h : absM w r = some (.mapIter mm a s b)) : (getObj r).run P w = .ok (.mapIter mm a s b) w := by
  have h' : w.heap[r]? = some (.mapIter mm a s b) := h
  simp [getObj, Sem.run, h']

theorem delete_x {o : Oper} {args : List Operand} {ats : Array TypeId} (ho : o.op = .call ⟨.builtin .delete, ⟨args⟩, ats⟩) (h : resDelete P ats args = some (ro, xl)) (hx : xs P ro (xl.map ρ) m K) : XStep P o ρ m K := by
  intro w hw
  subst hw
  unfold resDelete at h
  obtain ⟨⟨ag, ks, e⟩, hk, h⟩ := Option.map_eq_some_iff.1 h
  obtain ⟨rfl, rfl⟩ := Prod.mk.injEq .. ▸ h
  obtain ⟨t, ht, hk⟩ := Option.bind_eq_some_iff.1 hk
  unfold resKey at hk
  split at hk
  case h_2 => cases hk
  rename_i k e' hu
  obtain ⟨ks', hl, hk⟩ := Option.map_eq_some_iff.1 hk
  simp only [Prod.mk.injEq] at hk
  obtain ⟨rfl, rfl, rfl⟩ := hk
  match args, hx with
  | [x, y], hx =>
    obtain ⟨r, hr, hx⟩ := mP_inv hx
    cases r with
    | none =>
      obtain ⟨hok, hK⟩ := hx
      have h1 := checkKey_ok (w := w) (em := true) hl hok
      have : (execOp ρ o).run P w = .ok (.value (.tuple #[])) w := by
        simp [execOp, ho, resolve, invoke, builtin, Builtin.delete_, ht, run_underlying' hu, hr, h1]
      rw [this]; exact ⟨Side.rfl' w, hK⟩
    | some r =>
      obtain ⟨hok, es, clock, hm, f, hf, hK⟩ := hx
      have h1 := checkKey_ok (w := w) (em := es.isEmpty) hl hok
      have h2 := findKey_ok (w := w) hl (keyOk_iff hok).1 hf
      cases f with
      | none =>
        obtain ⟨s1, s2, s3⟩ := run_setObj_map (P := P) (o := .map es clock) hm
        have : (execOp ρ o).run P w = .ok (.value (.tuple #[])) { w with heap := w.heap.setIfInBounds r (.map es clock) } := by
          simp [execOp, ho, resolve, invoke, builtin, Builtin.delete_, ht, run_underlying' hu, hr, h1, h2, run_getObj_map hm, s1]
        rw [this]; exact ⟨s3, by rw [s2]; exact hK⟩
      | some iv =>
        obtain ⟨i, v⟩ := iv
        obtain ⟨s1, s2, s3⟩ := run_setObj_map (P := P) (o := .map (es.eraseIdxIfInBounds i) clock) hm
        have : (execOp ρ o).run P w = .ok (.value (.tuple #[])) { w with heap := w.heap.setIfInBounds r (.map (es.eraseIdxIfInBounds i) clock) } := by
          simp [execOp, ho, resolve, invoke, builtin, Builtin.delete_, ht, run_underlying' hu, hr, h1, h2, run_getObj_map hm, s1]
        rw [this]; exact ⟨s3, by rw [s2]; exact hK⟩
  | [], hx => exact hx.elim
  | [_], hx => exact hx.elim
  | _ :: _ :: _ :: _, hx => exact hx.elim

theorem clear_x {o : Oper} {args : List Operand} {ats : Array TypeId} (ho : o.op = .call ⟨.builtin .clear, ⟨args⟩, ats⟩) (h : resClear P ats args = some (ro, xl)) (hx : xs P ro (xl.map ρ) m K) : XStep P o ρ m K := by
  intro w hw
  subst hw
  unfold resClear at h
  split at h
  · rename_i e hu
    obtain ⟨z, hz, h⟩ := Option.map_eq_some_iff.1 h
    obtain ⟨rfl, rfl⟩ := Prod.mk.injEq .. ▸ h
    obtain ⟨t, ht, hu⟩ := Option.bind_eq_some_iff.1 hu
    unfold zeroOf at hz
    obtain ⟨inf, hi, hz⟩ := Option.bind_eq_some_iff.1 hz
    obtain ⟨z', hz', rfl⟩ := Option.map_eq_some_iff.1 hz
    match args, hx with
    | [x], hx =>
      obtain ⟨a, n, c, hv, hx⟩ := sP_inv hx
      cases a with
      | none =>
        have : (execOp ρ o).run P w = .ok (.value (.tuple #[])) w := by
          simp [execOp, ho, resolve, invoke, builtin, Builtin.clear_, ht, run_underlying' hu, hv]
        rw [this]; exact ⟨Side.rfl' w, hx⟩
      | some a =>
        obtain ⟨m', hst, hK⟩ := hx
        by_cases hn : n = 0
        · subst hn
          simp only [List.replicate_zero, List.flatten_nil, stCells, Option.some.injEq] at hst
          have : (execOp ρ o).run P w = .ok (.value (.tuple #[])) w := by
            simp [execOp, ho, resolve, invoke, builtin, Builtin.clear_, ht, run_underlying' hu, hv]
          rw [this]; exact ⟨Side.rfl' w, by rw [hst]; exact hK⟩
        · obtain ⟨w', hrs, he, hs⟩ := run_storeCells (P := P) a _ 0 w m' hst
          have hz0 : (zeroValue e).run P w = .ok z' w := run_zeroValue' hi hz'
          have hzc : (Builtin.zeroCells z'.cells n).toList = (List.replicate n z'.cells.toList).flatten := by rw [zeroCells_eq]
          rw [← hzc] at hrs
          have : (execOp ρ o).run P w = .ok (.value (.tuple #[])) w' := by
            simp [execOp, ho, resolve, invoke, builtin, Builtin.clear_, ht, run_underlying' hu, hv, hn, hz0, hrs]
          rw [this]; exact ⟨hs, by rw [he]; exact hK⟩
    | [], hx => exact hx.elim
    | _ :: _ :: _, hx => exact hx.elim
  · rename_i k e hu
    obtain ⟨rfl, rfl⟩ := some_pair h
    obtain ⟨t, ht, hu⟩ := Option.bind_eq_some_iff.1 hu
    match args, hx with
    | [x], hx =>
      obtain ⟨r, hv, hx⟩ := mP_inv hx
      cases r with
      | none =>
        have : (execOp ρ o).run P w = .ok (.value (.tuple #[])) w := by
          simp [execOp, ho, resolve, invoke, builtin, Builtin.clear_, ht, run_underlying' hu, hv]
        rw [this]; exact ⟨Side.rfl' w, hx⟩
      | some r =>
        obtain ⟨es, clock, hm, hK⟩ := hx
        obtain ⟨s1, s2, s3⟩ := run_setObj_map (P := P) (o := .map #[] clock) hm
        have : (execOp ρ o).run P w = .ok (.value (.tuple #[])) { w with heap := w.heap.setIfInBounds r (.map #[] clock) } := by
          simp [execOp, ho, resolve, invoke, builtin, Builtin.clear_, ht, run_underlying' hu, hv, run_getObj_map hm, s1]
        rw [this]; exact ⟨s3, by rw [s2]; exact hK⟩
    | [], hx => exact hx.elim
    | _ :: _ :: _, hx => exact hx.elim
  · cases h

theorem call_x {o : Oper} {c : Call} (ho : o.op = .call c) (h : resCall P c c.args.toList = some (ro, xl)) (hx : xs P ro (xl.map ρ) m K) (hq : ro.quiet = false) (hρ : ∀ f, ρ (.func f) = .func (.func f) #[] #[]) : XStep P o ρ m K := by
  obtain ⟨callee, args, argTypes⟩ := c
  obtain ⟨args⟩ := args
  simp only [resCall] at h
  cases callee with
  | invoke r n => cases h
  | value f =>
    intro w hw
    simp only [resVal] at h
    cases f with
    | func f =>
      simp only at h
      obtain ⟨fn, hf, h⟩ := Option.bind_eq_some_iff.1 h
      split at h
      · rename_i hb
        obtain ⟨rfl, rfl⟩ := some_pair h
        simp only [Bool.and_eq_true] at hb
        have hname : fn.name ≠ "runtime.NumGoroutine" := by simpa using hb.2
        have hbody : fn.body ≠ none := by intro hh; simp [hh] at hb
        have hc := hx w hw
        have hr : (execOp ρ o).run P w = .ok (.enter f (args.map ρ).toArray) w := by
          simp [execOp, ho, resolve, hρ, Deferred.ofValue, invoke, callFunc, hf, hname, hbody]
        rw [hr]
        exact ⟨Side.rfl' w, hc⟩
      · cases h
    | tmp t =>
      obtain ⟨rfl, rfl⟩ := some_pair h
      have hx : fP (fun f first captured => callable P f = true ∧ MC P f (first ++ args.map ρ ++ captured) m K) (ρ (.tmp t)) := hx
      obtain ⟨g, first, captured, hv, hcall, hx⟩ := fP_inv hx
      unfold callable at hcall
      split at hcall
      · rename_i fn hf
        simp only [Bool.and_eq_true] at hcall
        have hname : fn.name ≠ "runtime.NumGoroutine" := by simpa using hcall.2
        have hbody : fn.body ≠ none := by intro hh; simp [hh] at hcall
        have hc := hx w hw
        have e : (first.toList ++ args.map ρ ++ captured.toList).toArray = first ++ (args.map ρ).toArray ++ captured := by
          apply Array.ext'; simp
        have hr : (execOp ρ o).run P w = .ok (.enter g (first ++ (args.map ρ).toArray ++ captured)) w := by
          simp [execOp, ho, resolve, hv, Deferred.ofValue, invoke, callFunc, hf, hname, hbody]
        rw [hr, ← e]
        exact ⟨Side.rfl' w, hc⟩
      · cases hcall
    | _ => cases h
  | builtin b =>
    simp only [resBuiltin] at h
    split at h
    · unfold resLen at h
      split at h <;> first | (cases h; done) | (obtain ⟨rfl, rfl⟩ := some_pair h; simp [RO.quiet] at hq)
    · exact append_x ho h hx
    · exact copy_x ho h hx
    · obtain ⟨rfl, rfl⟩ := some_pair h; simp [RO.quiet] at hq
    · obtain ⟨rfl, rfl⟩ := some_pair h; simp [RO.quiet] at hq
    · exact delete_x ho h hx
    · exact clear_x ho h hx
    · cases h

theorem update_x {t : TypeId} {a k x : Operand} {n : Sem Next} (h : (resKey P t).map (fun z => (RO.mup z.1 z.2.1, [a, k, x])) = some (ro, xl)) (hx : xs P ro (xl.map ρ) m K)
    (hn : ∀ w : World, n.run P w = ((Instr.mapUpdate t (ρ a) (ρ k) (ρ x)).run P w).andThen fun _ w' => .ok .skip w') : ∀ w, absM w = m → XUpon P w K (n.run P w) := by
  intro w hw
  subst hw
  obtain ⟨⟨ag, ks, e⟩, hk, h⟩ := Option.map_eq_some_iff.1 h
  obtain ⟨rfl, rfl⟩ := Prod.mk.injEq .. ▸ h
  unfold resKey at hk
  split at hk
  case h_2 => cases hk
  rename_i kt e' hu
  obtain ⟨ks', hl, hk⟩ := Option.map_eq_some_iff.1 hk
  simp only [Prod.mk.injEq] at hk
  obtain ⟨rfl, rfl, rfl⟩ := hk
  obtain ⟨r, hv, b, rfl, hok, es, clock, hm, f, hf, hK⟩ := mP_inv hx
  have h1 := checkKey_ok (w := w) (em := false) hl hok
  have h2 := findKey_ok (w := w) hl (keyOk_iff hok).1 hf
  have h3 := stays_ok (P := P) (w := w) hok
  rw [hn]
  cases f with
  | none =>
    obtain ⟨s1, s2, s3⟩ := run_setObj_map (P := P) (o := .map (es.push { key := ρ k, val := ρ x, born := clock }) (clock + 1)) hm
    have : (Instr.mapUpdate t (ρ a) (ρ k) (ρ x)).run P w = .ok () { w with heap := w.heap.setIfInBounds b (.map (es.push { key := ρ k, val := ρ x, born := clock }) (clock + 1)) } := by
      simp [Instr.mapUpdate, run_underlying' hu, hv, run_getObj_map hm, h1, h2, s1]
    rw [this]; exact ⟨s3, by rw [s2]; exact hK⟩
  | some iv =>
    obtain ⟨i, v⟩ := iv
    obtain ⟨n0, e0, hn0, he0, hke, _⟩ := findE_at (keyOk_iff hok).1 hf
    have hi : (es[i]?).map (·.key) = some (ρ k) := by
      rw [Nat.zero_add] at hn0
      subst hn0
      rw [← Array.getElem?_toList, he0]; simp [hke]
    obtain ⟨s1, s2, s3⟩ := run_setObj_map (P := P) (o := .map (es.modify i fun e => { e with key := ρ k, val := ρ x }) clock) hm
    have : (Instr.mapUpdate t (ρ a) (ρ k) (ρ x)).run P w = .ok () { w with heap := w.heap.setIfInBounds b (.map (es.modify i fun e => { e with key := ρ k, val := ρ x }) clock) } := by
      simp [Instr.mapUpdate, run_underlying' hu, hv, run_getObj_map hm, h1, h2, hi, h3, s1, -Option.getD_map]
    rw [this]; exact ⟨s3, by rw [s2]; exact hK⟩

def cands (since : Nat) (seen : Array Nat) (es : Array MapEntry) : Array (Option MapEntry) :=
  (if ((es.filter fun e => !seen.contains e.born).filter fun e => decide (e.born < since)).isEmpty then #[none] else #[]) ++
    (((es.filter fun e => !seen.contains e.born).filter fun e => decide (e.born < since)) ++ ((es.filter fun e => !seen.contains e.born).filter fun e => decide (e.born ≥ since))).map some
theorem cands_pos (since : Nat) (seen : Array Nat) (es : Array MapEntry) : 0 < (cands since seen es).size := by
  unfold cands
  generalize (es.filter fun e => !seen.contains e.born).filter (fun e => decide (e.born < since)) = old
  by_cases ho : old.isEmpty = true
  · simp only [ho, if_true, Array.size_append]; simp; omega
  · have : 0 < old.size := by
      rcases Nat.eq_zero_or_pos old.size with h | h
      · exact absurd (by simpa [Array.isEmpty_iff_size_eq_zero] using h) ho
      · exact h
    simp only [Array.size_append, Array.size_map]; omega
theorem cands_none {since : Nat} {seen : Array Nat} {es : Array MapEntry} (h : none ∈ cands since seen es) : ∀ e ∈ es.toList, seen.contains e.born = false → ¬ e.born < since := by
  intro e he hs hlt
  unfold cands at h
  simp only [Array.mem_append, Array.mem_map, reduceCtorEq, and_false, exists_false, or_false] at h
  split at h
  · rename_i ho
    have : e ∈ (es.filter fun e => !seen.contains e.born).filter fun e => decide (e.born < since) := by
      simp only [Array.mem_filter, decide_eq_true_eq, Bool.not_eq_true']
      exact ⟨⟨Array.mem_toList_iff.1 he, hs⟩, hlt⟩
    rw [Array.isEmpty_iff.1 ho] at this
    simp at this
  · simp at h
theorem cands_some {since : Nat} {seen : Array Nat} {es : Array MapEntry} {e : MapEntry} (h : some e ∈ cands since seen es) : e ∈ es.toList ∧ seen.contains e.born = false := by
  unfold cands at h
  simp only [Array.mem_append, Array.mem_map, Option.some.injEq, exists_eq_right, Array.mem_filter, Bool.not_eq_true'] at h
  rcases h with h | h | h
  · split at h <;> simp at h
  · exact ⟨Array.mem_toList_iff.2 h.1.1, h.1.2⟩
  · exact ⟨Array.mem_toList_iff.2 h.1.1, h.1.2⟩
theorem next_run {b mb since last clock : Nat} {seen : Array Nat} {es : Array MapEntry} {s : Option Nat} {ty : TypeId} (hg : (getObj b).run P w = .ok (.mapIter (some mb) since seen last) w) (hgm : (getObj mb).run P w = .ok (.map es clock) w)
    (hbad : (!seen.isEmpty && !es.isEmpty && es.all (fun x => decide (x.born ≥ last))) = false) :
    (Instr.next (.pointer (some ⟨b, 0, s⟩)) false ty).run P w = ((choose (.mapNext (cands since seen es).size)).run P w).andThen fun i w' =>
      (match (cands since seen es)[i]? with
        | some (some e) => do
          setObj b (.mapIter (some mb) since (seen.push e.born) clock)
          pure (.tuple #[.bool true, e.key, e.val])
        | some none => pure (.tuple #[.bool false])
        | none => stuck "Next: no such candidate" : Sem Value).run P w' := by
  simp only [Instr.next, Sem.run_bind, hg, Result.andThen_ok, hgm, hbad, Bool.false_eq_true, if_false]
  rfl

theorem next_x {it : Operand} {dst : Option Tmp} {type : TypeId} {pos : String} {after : Array Edge} {guard : Option (Nat × Bool)} {a : Addr} (hv : ρ it = .pointer (some a)) (hx : nxtP (absM w) K a) :
    XUpon P w K ((execOp ρ { dst := dst, op := Op.next it false, type := type, pos := pos, after := after, guard := guard }).run P w) := by
  obtain ⟨b, o, s⟩ := a
  obtain ⟨ho, r, since, seen, last, hb, hx⟩ := hx
  simp only at ho hb
  subst ho
  have hg := run_getObj_iter (P := P) hb
  cases r with
  | none =>
    have : (execOp ρ { dst := dst, op := Op.next it false, type := type, pos := pos, after := after, guard := guard }).run P w = .ok (.value (.tuple #[.bool false])) w := by
      simp [execOp, Instr.next, hv, hg]
    rw [this]; exact ⟨Side.rfl' w, hx⟩
  | some mb =>
    obtain ⟨es, clock, hm, hbad, hover, hone⟩ := hx
    have hgm := run_getObj_map (P := P) hm
    have hbad' : (!seen.isEmpty && !es.isEmpty && es.all (fun x => decide (x.born ≥ last))) = false := hbad
    have hrun := next_run (P := P) (w := w) (s := s) (ty := type) hg hgm hbad'
    generalize hcand : cands since seen es = cand at hrun
    have hcs : 0 < cand.size := by
      rw [← hcand]; exact cands_pos _ _ _
    obtain ⟨i, w1, hch, hi, hw1, hs1⟩ : ∃ i w1, (choose (.mapNext cand.size)).run P w = .ok i w1 ∧ i < cand.size ∧ absM w1 = absM w ∧ Side w w1 := by
      by_cases hf : cand.size ≤ 1
      · exact ⟨0, w, by simp [Question.forced, hf], hcs, rfl, Side.rfl' w⟩
      · exact ⟨(w.tape w.drawn (.mapNext cand.size)) % cand.size, { w with drawn := w.drawn + 1 }, by simp [Question.forced, hf, Question.cut], Nat.mod_lt _ hcs, rfl, side_drew w _ (Nat.le_succ _)⟩
    have hci := Array.getElem?_eq_getElem hi
    have hex : (execOp ρ { dst := dst, op := Op.next it false, type := type, pos := pos, after := after, guard := guard }).run P w =
        ((Instr.next (.pointer (some ⟨b, 0, s⟩)) false type).run P w).andThen fun v w' => .ok (.value v) w' := by
      simp only [execOp, hv, Sem.run_bind, Sem.run_pure]
    rw [hex, hrun, hch]
    simp only [Result.andThen_ok, hci]
    cases hcv : cand[i] with
    | none =>
      simp only [Sem.run_pure, Result.andThen_ok]
      refine ⟨hs1, ?_⟩
      rw [hw1]
      apply hover
      have hm0 := Array.getElem_mem hi
      rw [hcv, ← hcand] at hm0
      exact cands_none hm0
    | some e =>
      have hmem : e ∈ es.toList ∧ seen.contains e.born = false := by
        have hm0 := Array.getElem_mem hi
        rw [hcv, ← hcand] at hm0
        exact cands_some hm0
      have hb1 : absM w1 b = some (.mapIter (some mb) since seen last) := by rw [hw1]; exact hb
      obtain ⟨s1, s2, s3⟩ := run_setObj_iter (P := P) (o := .mapIter (some mb) since (seen.push e.born) clock) hb1
      simp only [Sem.run_bind, s1, Result.andThen_ok, Sem.run_pure]
      refine ⟨hs1.trans s3, ?_⟩
      rw [s2, hw1]
      exact hone e hmem.1 hmem.2

theorem res_x {o : Oper} (h : res P o = some (ro, xl)) (hq : ro.quiet = false) (hx : xs P ro (xl.map ρ) m K) (hρ : ∀ f, ρ (.func f) = .func (.func f) #[] #[]) : XStep P o ρ m K := by
  have h0 := res_cases h
  clear h
  rcases h0 with h | h
  case inr => cases h; simp [xs] at hx
  obtain ⟨dst, op, type, pos, after, guard⟩ := o
  cases op <;> simp only [res0, reduceCtorEq] at h
  case call c => exact call_x rfl h hx hq hρ
  case binOp op t x y u =>
    unfold resBin at h
    split at h <;> first
      | (cases h; done)
      | (obtain ⟨rfl, rfl⟩ := some_pair h; simp [RO.quiet] at hq; done)
      | (split at h
         · cases h
         · obtain ⟨ks, hl, h⟩ := Option.map_eq_some_iff.1 h
           obtain ⟨rfl, rfl⟩ := Prod.mk.injEq .. ▸ h; simp [RO.quiet] at hq)
  case move x => obtain ⟨rfl, rfl⟩ := some_pair h; simp [RO.quiet] at hq
  case assign x => obtain ⟨rfl, rfl⟩ := some_pair h; simp [RO.quiet] at hq
  case pick c a b => obtain ⟨rfl, rfl⟩ := some_pair h; simp [RO.quiet] at hq
  case entry it => obtain ⟨rfl, rfl⟩ := some_pair h; simp [RO.quiet] at hq
  case nilCheck x => obtain ⟨rfl, rfl⟩ := some_pair h; simp [RO.quiet] at hq
  case fieldAddr s x f =>
    split at h
    · obtain ⟨fl, hf, h⟩ := Option.bind_eq_some_iff.1 h
      obtain ⟨i, hi, h⟩ := Option.bind_eq_some_iff.1 h
      split at h
      · cases h
      · obtain ⟨rfl, rfl⟩ := some_pair h; simp [RO.quiet] at hq
    · cases h
  case indexAddr t x i =>
    split at h
    · obtain ⟨j, hj, h⟩ := Option.map_eq_some_iff.1 h
      obtain ⟨rfl, rfl⟩ := Prod.mk.injEq .. ▸ h; simp [RO.quiet] at hq
    · obtain ⟨j, hj, h⟩ := Option.map_eq_some_iff.1 h
      obtain ⟨rfl, rfl⟩ := Prod.mk.injEq .. ▸ h; simp [RO.quiet] at hq
    · cases h
  case load t x =>
    split at h
    · obtain ⟨rfl, rfl⟩ := some_pair h; simp [RO.quiet] at hq
    · split at h
      · obtain ⟨i, hi, h⟩ := Option.map_eq_some_iff.1 h
        obtain ⟨rfl, rfl⟩ := Prod.mk.injEq .. ▸ h; simp [RO.quiet] at hq
      · cases h
  case store t a x =>
    obtain ⟨i, hi, h⟩ := Option.map_eq_some_iff.1 h
    obtain ⟨rfl, rfl⟩ := Prod.mk.injEq .. ▸ h
    intro w hw
    subst hw
    obtain ⟨a', ha, hsz, m', hst, hK⟩ := pP_inv hx
    obtain ⟨w', hr, e', s'⟩ := run_storeCells (P := P) _ _ _ _ _ hst
    have : (execOp ρ { dst := dst, op := Op.store t a x, type := type, pos := pos, after := after, guard := guard }).run P w = .ok .skip w' := by
      simp [execOp, Instr.storeAt, ha, Instr.sureAddr, storeVar, run_sizeOf' hi, hsz, hr]
    rw [this]
    exact ⟨s', by rw [e']; exact hK⟩
  case alloc t =>
    obtain ⟨z, hz, h⟩ := Option.map_eq_some_iff.1 h
    obtain ⟨rfl, rfl⟩ := Prod.mk.injEq .. ▸ h
    unfold zeroOf at hz
    obtain ⟨i, hi, hz⟩ := Option.bind_eq_some_iff.1 hz
    obtain ⟨z', hz', rfl⟩ := Option.map_eq_some_iff.1 hz
    intro w hw
    subst hw
    simp only [List.map_nil, xs] at hx
    have := hx w.heap.size (absM_none w)
    have hr : (execOp ρ { dst := dst, op := Op.alloc t, type := type, pos := pos, after := after, guard := guard }).run P w =
        .ok (.value (.pointer (some ⟨w.heap.size, 0, none⟩))) { w with heap := w.heap.push (.cells z'.cells t) } := by
      simp [execOp, Instr.alloc, run_zeroValue' hi hz', newVar, newRow]
    rw [hr]
    exact ⟨side_push _ _ _, by rw [absM_push]; simpa using this⟩
  case box t x =>
    obtain ⟨rfl, rfl⟩ := some_pair h
    intro w hw
    subst hw
    simp only [List.map_cons, List.map_nil, xs] at hx
    have := hx w.heap.size (absM_none w)
    have hr : (execOp ρ { dst := dst, op := Op.box t x, type := type, pos := pos, after := after, guard := guard }).run P w =
        .ok (.value (.pointer (some ⟨w.heap.size, 0, none⟩))) { w with heap := w.heap.push (.cells (ρ x).cells t) } := by
      simp [execOp, Instr.box, newVar, newRow]
    rw [hr]
    exact ⟨side_push _ _ _, by rw [absM_push]; exact this⟩
  case unOp op t x =>
    cases op <;> simp only [resUn, reduceCtorEq] at h
    · split at h
      · obtain ⟨rfl, rfl⟩ := some_pair h; simp [RO.quiet] at hq
      · cases h
    · split at h
      · obtain ⟨rfl, rfl⟩ := some_pair h; simp [RO.quiet] at hq
      · cases h
    · obtain ⟨rfl, rfl⟩ := some_pair h; simp [RO.quiet] at hq
  case convert s d x =>
    split at h
    · obtain ⟨rfl, rfl⟩ := some_pair h; simp [RO.quiet] at hq
    · obtain ⟨rfl, rfl⟩ := some_pair h; simp [RO.quiet] at hq
    · split at h
      · obtain ⟨rfl, rfl⟩ := some_pair h; simp [RO.quiet] at hq
      · cases h
    · rename_i e h1 h2
      split at h
      · rename_i he
        obtain ⟨rfl, rfl⟩ := some_pair h
        intro w hw
        subst hw
        obtain ⟨z, hv, hx⟩ := zP_inv hx
        have h8 : P.underlying e = some (.int .u8) := he
        let q := Question.appendCap z.size 0 e
        let nc := q.cut (w.tape w.drawn q)
        have hnc : z.size ≤ nc := by simp only [nc, q, Question.cut]; omega
        have hcap : (choose q).run P w = .ok nc { w with drawn := w.drawn + 1 } := by simp [q, nc, Question.forced]
        have hK := hx nc w.heap.size hnc (absM_none w)
        have hcells : (z.data.map fun b => Value.int .u8 b.toNat) ++ Array.replicate (nc - z.size) (Value.int .u8 0) = ((z.data.toList.map fun (x : UInt8) => Value.int .u8 x.toNat) ++ List.replicate (nc - z.size) (Value.int .u8 0)).toArray := by
          apply Array.ext'; simp
        have hsz : (((z.data.toList.map fun (x : UInt8) => Value.int .u8 x.toNat) ++ List.replicate (nc - z.size) (Value.int .u8 0)).toArray).size = nc := by
          have : z.data.toList.length = z.size := rfl
          simp only [List.size_toArray, List.length_append, List.length_map, List.length_replicate, this]; omega
        generalize hrow : ((z.data.toList.map fun (x : UInt8) => Value.int .u8 x.toNat) ++ List.replicate (nc - z.size) (Value.int .u8 0)).toArray = row at *
        let w1 : World := { w with drawn := w.drawn + 1, heap := w.heap.push (.cells row e) }
        have hsh : w1.shape? w.heap.size = some (e, nc) := by
          have hp : w1.heap[w.heap.size]? = some (.cells row e) := Array.getElem?_push_size
          unfold World.shape?
          rw [hp]
          show some (e, row.size) = _
          rw [hsz]
        have hrun : (execOp ρ { dst := dst, op := Op.convert s d x, type := type, pos := pos, after := after, guard := guard }).run P w = .ok (.value (.slice (some ⟨w.heap.size, 0, none⟩) z.size nc)) (w1.freeze ⟨w.heap.size, nc, none⟩ 1) := by
          simp only [execOp, hv, convert, Sem.run_bind, run_underlying' h1, run_underlying' h2, Result.andThen_ok, run_underlying' h8, Conv.stringToBytes]
          rw [show (choose (.appendCap z.size 0 e)).run P w = _ from hcap]
          simp only [Result.andThen_ok, newRow, Sem.run_bind, run_newObj, Sem.run_pure, hcells, markStringish, run_shape]
          rw [show ({ w with drawn := w.drawn + 1, heap := w.heap.push (.cells row e) } : World).shape? w.heap.size = some (e, nc) from hsh]
          simp only [run_freeze, Result.andThen_ok]
          rfl
        rw [hrun]
        have hfr : absM (w1.freeze ⟨w.heap.size, nc, none⟩ 1) = (absM w).set w.heap.size (.cells row e (nc, nc + 1)) := by
          funext b
          show (if (1 : Nat) = 0 then w1 else _).heap[b]? = _
          rw [if_neg (by decide)]
          simp only [absM, w1, Mem.set, Array.getElem?_modify]
          by_cases eb : b = w.heap.size
          · subst eb
            simp only [if_true, Array.getElem?_push_size, Option.map_some]
            rfl
          · have : w.heap.size ≠ b := fun h => eb h.symm
            simp only [eb, this, if_false, Array.getElem?_push]
        refine ⟨⟨rfl, rfl, by simp [World.freeze, w1], rfl, Nat.le_succ _⟩, ?_⟩
        rw [hfr]; exact hK
      · cases h
    · cases h
  case field t x f =>
    split at h
    · obtain ⟨fl, hf, h⟩ := Option.bind_eq_some_iff.1 h
      split at h
      · obtain ⟨rfl, rfl⟩ := some_pair h; simp [RO.quiet] at hq
      · split at h
        · obtain ⟨i, hi, h⟩ := Option.map_eq_some_iff.1 h
          obtain ⟨rfl, rfl⟩ := Prod.mk.injEq .. ▸ h; simp [RO.quiet] at hq
        · cases h
    · cases h
  case extract x i => obtain ⟨rfl, rfl⟩ := some_pair h; simp [RO.quiet] at hq
  case makeSlice t l c =>
    split at h
    · rename_i el hu
      obtain ⟨i, hi, h⟩ := Option.bind_eq_some_iff.1 h
      obtain ⟨z, hz, h⟩ := Option.bind_eq_some_iff.1 h
      split at h
      · rename_i hsz
        obtain ⟨rfl, rfl⟩ := some_pair h
        intro w hw
        subst hw
        obtain ⟨n, hl, hx⟩ := iP_inv hx
        obtain ⟨c', hc, h0, h1, h2, h3, hk⟩ := iP_inv hx
        have := hk w.heap.size (absM_none w)
        have wn : IntKind.i64.wrap n = n := wrap_i64 (by omega) (by omega)
        have wc : IntKind.i64.wrap c' = c' := wrap_i64 (by omega) (by omega)
        have hr : (execOp ρ { dst := dst, op := Op.makeSlice t l c, type := type, pos := pos, after := after, guard := guard }).run P w =
            .ok (.value (.slice (some ⟨w.heap.size, 0, none⟩) n.toNat c'.toNat)) { w with heap := w.heap.push (.cells (List.replicate c'.toNat z.cells.toList).flatten.toArray el) } := by
          have e1 : ¬ (c' < 0) := by omega
          have e2 : ¬ (281474976710656 < (i.bytes : Int) * c') := by omega
          have e3 : ¬ (n < 0) := by omega
          have e4 : ¬ (c' < n) := by omega
          have e5 : (zeroValue el).run P w = .ok z w := run_zeroValue' hi hz
          have e6 := madeCells_eq z.cells c'.toNat (by omega)
          by_cases hc0 : c' = 0
          · subst hc0
            simp [execOp, Instr.makeSlice, run_underlying' hu, hl, hc, asInt, asIntOf, run_typeInfo' hi, wn, wc, e3, e4, newRow, run_sizeOf' hi, Array.range]
            congr 2
            exact Array.eq_empty_of_size_eq_zero (by simp [wc])
          · have e7 : c'.toNat ≠ 0 := by omega
            have e8 : i.size ≠ 0 := by omega
            have e9 : c'.toNat * i.size ≠ 0 := Nat.mul_ne_zero e7 e8
            rw [hsz.1] at e6
            simp [execOp, Instr.makeSlice, run_underlying' hu, hl, hc, asInt, asIntOf, run_typeInfo' hi, wn, wc, e1, e2, e3, e4, newRow, run_sizeOf' hi, e5, if_neg e9, hsz.1]
            congr 2
        rw [hr]
        exact ⟨side_push _ _ _, by rw [absM_push]; exact this⟩
      · cases h
    · cases h
  case build t parts =>
    unfold resBuild at h
    obtain ⟨z, hz, h⟩ := Option.bind_eq_some_iff.1 h
    split at h
    · split at h
      · obtain ⟨ps, hps, h⟩ := Option.map_eq_some_iff.1 h
        obtain ⟨rfl, rfl⟩ := Prod.mk.injEq .. ▸ h; simp [RO.quiet] at hq
      · cases h
    · obtain ⟨ps, hps, h⟩ := Option.map_eq_some_iff.1 h
      obtain ⟨rfl, rfl⟩ := Prod.mk.injEq .. ▸ h; simp [RO.quiet] at hq
    · cases h
  case buildSlice t len parts =>
    unfold resBuildSlice at h
    split at h
    case h_2 => cases h
    rename_i e hu
    obtain ⟨i, hi, h⟩ := Option.bind_eq_some_iff.1 h
    obtain ⟨z, hz, h⟩ := Option.bind_eq_some_iff.1 h
    split at h
    case isFalse => cases h
    rename_i hsz
    obtain ⟨rfl, rfl⟩ := some_pair h
    intro w hw
    subst hw
    obtain ⟨l, hl, hk⟩ := hx
    have := hk w.heap.size (absM_none w)
    have hcells : (Array.range (len * i.size)).map (fun j => z.cells[j % z.cells.size]!) = (List.replicate len z.cells.toList).flatten.toArray := by
      rw [← hsz.1]; exact madeCells_eq z.cells len (by omega)
    have hfill := fill_lay (fun j => some (j * i.size, i.size)) (parts.toList.map fun (j, x) => (j, ρ x)) (parts.toList.map fun p => (p.1 * i.size, i.size)) (List.replicate len z.cells.toList).flatten.toArray l
      (by simp [List.map_map]) (by rw [List.map_map]; rw [List.map_map] at hl; exact hl)
    have hz' := run_zeroValue' (P := P) (w := w) hi hz
    have hr : (execOp ρ { dst := dst, op := Op.buildSlice t len parts, type := type, pos := pos, after := after, guard := guard }).run P w =
        .ok (.value (.slice (some ⟨w.heap.size, 0, none⟩) len len)) { w with heap := w.heap.push (.cells l.toArray e) } := by
      obtain ⟨parts⟩ := parts
      simp only at hfill
      have h16 : ¬ (16777216 < len * i.size) := by omega
      by_cases hz0 : len * i.size = 0
      · have hl0 : len = 0 := by
          rcases Nat.mul_eq_zero.1 hz0 with h | h
          · exact h
          · omega
        subst hl0
        have : (List.replicate 0 z.cells.toList).flatten.toArray = (#[] : Array Value) := by simp
        rw [this] at hfill
        have h0r : Array.range 0 = #[] := rfl
        simp only [execOp, Instr.buildSlice, Sem.run_bind, run_underlying' hu, Result.andThen_ok, run_sizeOf' hi, Nat.zero_mul, if_true, Sem.run_pure, h0r, List.map_toArray, List.map_nil, hfill, newRow]
        rfl
      · simp only [execOp, Instr.buildSlice, Sem.run_bind, run_underlying' hu, Result.andThen_ok, run_sizeOf' hi, if_neg hz0, hz', Sem.run_pure, hcells, List.map_toArray, hfill, newRow, run_newObj, Nat.reducePow, h16, if_false]
    rw [hr]
    exact ⟨side_push _ _ _, by rw [absM_push]; exact this⟩
  case slice t x lo hi mx =>
    cases mx with
    | none =>
      simp only [Option.isNone_none, if_true, resSlice] at h
      split at h
      · obtain ⟨i, hi, h⟩ := Option.map_eq_some_iff.1 h
        obtain ⟨rfl, rfl⟩ := Prod.mk.injEq .. ▸ h; simp [RO.quiet] at hq
      · obtain ⟨rfl, rfl⟩ := some_pair h; simp [RO.quiet] at hq
      · split at h
        · obtain ⟨i, hi, h⟩ := Option.map_eq_some_iff.1 h
          obtain ⟨rfl, rfl⟩ := Prod.mk.injEq .. ▸ h; simp [RO.quiet] at hq
        · cases h
      · cases h
    | some mx =>
      simp only [Option.isNone_some, Bool.false_eq_true, if_false, resSlice3] at h
      split at h
      · obtain ⟨i, hi, h⟩ := Option.map_eq_some_iff.1 h
        obtain ⟨rfl, rfl⟩ := Prod.mk.injEq .. ▸ h; simp [RO.quiet] at hq
      · cases h
  case index t x i =>
    split at h
    · split at h
      · obtain ⟨j, hj, h⟩ := Option.map_eq_some_iff.1 h
        obtain ⟨rfl, rfl⟩ := Prod.mk.injEq .. ▸ h; simp [RO.quiet] at hq
      · split at h
        · obtain ⟨j, hj, h⟩ := Option.map_eq_some_iff.1 h
          obtain ⟨rfl, rfl⟩ := Prod.mk.injEq .. ▸ h; simp [RO.quiet] at hq
        · cases h
    · obtain ⟨rfl, rfl⟩ := some_pair h; simp [RO.quiet] at hq
    · cases h
  case makeFunc fn first captured => obtain ⟨rfl, rfl⟩ := some_pair h; simp [RO.quiet] at hq
  case makeMap t r =>
    split at h
    · rename_i hr
      obtain ⟨rfl, rfl⟩ := some_pair h
      have hr' : r = none := by simpa using hr
      subst hr'
      intro w hw
      subst hw
      simp only [List.map_nil, xs] at hx
      have := hx w.heap.size (absM_none w)
      have hr : (execOp ρ { dst := dst, op := Op.makeMap t none, type := type, pos := pos, after := after, guard := guard }).run P w =
          .ok (.value (.map (some w.heap.size))) { w with heap := w.heap.push (.map #[] 0) } := by
        simp [execOp, Instr.makeMap]
      rw [hr]
      exact ⟨side_any _ _, by rw [absM_push]; exact this⟩
    · cases h
  case lookup t x i ok =>
    unfold resLookup at h
    obtain ⟨z, hz, h⟩ := Option.bind_eq_some_iff.1 h
    obtain ⟨z', hz', h⟩ := Option.map_eq_some_iff.1 h
    obtain ⟨rfl, rfl⟩ := Prod.mk.injEq .. ▸ h; simp [RO.quiet] at hq
  case mapUpdate t a k x =>
    refine fun w hw => update_x h hx (fun r => ?_) w hw
    simp [execOp]
  case insert t a k x =>
    refine fun w hw => update_x h hx (fun r => ?_) w hw
    simp [execOp]
  case range t x =>
    split at h
    · rename_i k e hu
      obtain ⟨rfl, rfl⟩ := some_pair h
      intro w hw
      subst hw
      obtain ⟨r, hv, hx⟩ := mP_inv hx
      cases r with
      | none =>
        have := hx w.heap.size (absM_none w)
        have hr : (execOp ρ { dst := dst, op := Op.range t x, type := type, pos := pos, after := after, guard := guard }).run P w =
            .ok (.value (.pointer (some ⟨w.heap.size, 0, none⟩))) { w with heap := w.heap.push (.mapIter none 0 #[] 0) } := by
          simp [execOp, Instr.range, run_underlying' hu, hv]
        rw [hr]
        exact ⟨side_any _ _, by rw [absM_push]; exact this⟩
      | some b =>
        obtain ⟨es, clock, hm, hx⟩ := hx
        have := hx w.heap.size (absM_none w)
        have hr : (execOp ρ { dst := dst, op := Op.range t x, type := type, pos := pos, after := after, guard := guard }).run P w =
            .ok (.value (.pointer (some ⟨w.heap.size, 0, none⟩))) { w with heap := w.heap.push (.mapIter (some b) clock #[] clock) } := by
          simp [execOp, Instr.range, run_underlying' hu, hv, run_getObj_map hm]
        rw [hr]
        exact ⟨side_any _ _, by rw [absM_push]; exact this⟩
    · cases h
  case next it isS =>
    split at h
    · cases h
    · rename_i hs
      obtain ⟨rfl, rfl⟩ := some_pair h
      intro w hw
      subst hw
      obtain ⟨a, hv, hx⟩ := pP_inv hx
      have hs' : isS = false := by simpa using hs
      subst hs'
      exact next_x (dst := dst) (type := type) (pos := pos) (after := after) (guard := guard) hv hx

end sound
end Go.Fw
