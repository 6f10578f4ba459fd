import Derived.Test.YtpjecpkkcabnjaaGreatDoorFv
import Derived.Laws.Append
import Derived.Deep.LoopGhost
set_option linter.unusedVariables false
set_option linter.unusedSimpArgs false
namespace Go.Fw
def XUpon (P : Program) (w : World) (K : Value → Mem → Prop) : Result Next → Prop
  | .ok (.value v) w' => Side w w' ∧ K v (absM w')
  | .ok .skip w' => Side w w' ∧ K undef (absM w')
  | .ok (.enter f args) w' => Side w w' ∧ Calls P f args w' fun e w'' => ∃ v, e = .returned v ∧ Side w' w'' ∧ K v (absM w'')
  | _ => False
def XStep (P : Program) (o : Oper) (ρ : Operand → Value) (m : Mem) (K : Value → Mem → Prop) : Prop :=
  ∀ w, absM w = m → XUpon P w K ((execOp ρ o).run P w)
section sound
variable {P : Program} {ro : RO} {xl : List Operand} {m m' : Mem} {w : World} {ρ : Operand → Value} {K : Value → Mem → Prop}
theorem absM_none (w : World) : absM w w.heap.size = none := by simp [absM]
theorem absM_push (w : World) (o : Obj) : absM { w with heap := w.heap.push o } = (absM w).set w.heap.size o := by
  funext b
  simp only [absM, Mem.set, Array.getElem?_push]
theorem side_any (w : World) (o : Obj) : Side w { w with heap := w.heap.push o } := ⟨rfl, rfl, by simp, rfl⟩
theorem side_push (w : World) (c : Array Value) (t : TypeId) : Side w { w with heap := w.heap.push (.cells c t) } := ⟨rfl, rfl, by simp, rfl⟩
theorem side_drew (w : World) (n : Nat) (h : w.drawn ≤ n) : Side w { w with drawn := n } := ⟨rfl, rfl, Nat.le_refl _, rfl⟩
theorem absM_setCell {w : World} {a : Addr} {v : Value} {m' : Mem} (h : putC (absM w) a v = some m') :
    absM (w.setCell a v) = m' ∧ Side w (w.setCell a v) ∧ (∃ u, w.cell? a = some u) ∧ w.frozen? a = false := by
  unfold putC at h
  split at h
  · rename_i c t fr hb
    split at h
    · cases h
    · rename_i hc
      simp only [Option.some.injEq] at h; subst h
      simp only [Bool.or_eq_true, Bool.and_eq_true, Bool.not_eq_true', not_or, decide_eq_true_eq, decide_eq_false_iff_not, Decidable.not_not] at hc
      obtain ⟨⟨hs, hlt⟩, hfr⟩ := hc
      have hs' : a.spot.isSome = false := by simpa using hs
      have hb' : w.heap[a.block]? = some (.cells c t fr) := hb
      refine ⟨?_, ⟨rfl, rfl, by simp [World.setCell], rfl⟩, ⟨c[a.off], ?_⟩, ?_⟩
      · funext b
        simp only [absM, World.setCell, Mem.set, Array.getElem?_modify]
        by_cases e : b = a.block
        · subst e; simp [hb', hs']
        · rw [if_neg (fun h => e h.symm), if_neg e]
      · simp only [World.cell?, hb', hs', Bool.false_eq_true, if_false]
        exact Array.getElem?_eq_getElem hlt
      · simp only [World.frozen?, hb']
        simpa using hfr
  · cases h
theorem run_storeCells (a : Addr) : ∀ (l : List Value) (i : Nat) (w : World) (m' : Mem), stCells (absM w) a i l = some m' →
    ∃ w', (storeCells a l i).run P w = .ok () w' ∧ absM w' = m' ∧ Side w w'
  | [], i, w, m', h => by simp only [stCells, Option.some.injEq] at h; subst h; exact ⟨w, by simp [storeCells], rfl, Side.rfl' w⟩
  | v :: r, i, w, m', h => by
    simp only [stCells] at h
    split at h
    · rename_i hv
      obtain ⟨m1, h1, h2⟩ := Option.bind_eq_some_iff.1 h
      obtain ⟨e1, s1, ⟨u, hu⟩, hf⟩ := absM_setCell h1
      rw [← e1] at h2
      obtain ⟨w', hr, e2, s2⟩ := run_storeCells a r (i + 1) (w.setCell (a.add i) v) m' h2
      refine ⟨w', ?_, e2, s1.trans s2⟩
      have hst : (store (a.add i) v).run P w = .ok () (w.setCell (a.add i) v) := by rw [run_store P w _ v _ hv, hu]; simp [hf]
      simp only [storeCells, Sem.run_bind, hst, Result.andThen_ok, hr]
    · cases h
theorem run_zeroValue' {t : TypeId} {i : TypeInfo} {z : Value} (h : P.info? t = some i) (hz : i.zero = some z) : (zeroValue t).run P w = .ok z w := by
  simp [zeroValue, run_typeInfo' h, hz]
theorem wrap_i64 {n : Int} (h0 : -9223372036854775808 ≤ n) (h1 : n ≤ 9223372036854775807) : IntKind.i64.wrap n = n := by
  simp only [IntKind.wrap, IntKind.bits, IntKind.signed, Bool.true_and]
  by_cases h : n % 2 ^ 64 ≥ 2 ^ 63
  · rw [if_pos (by simpa using h)]; omega
  · rw [if_neg (by simpa using h)]; omega
theorem madeCells_eq (z : Array Value) (n : Nat) (_hz : 0 < z.size) : (Array.range (n * z.size)).map (fun i => z[i % z.size]!) = (List.replicate n z.toList).flatten.toArray := by
  apply Array.ext'
  simp only [Array.toList_map, Array.toList_range]
  induction n with
  | zero => simp
  | succ n ih =>
    rw [Nat.succ_mul, List.range_add, List.map_append, ih, List.replicate_succ', List.flatten_append]
    congr 1
    simp only [List.map_map, List.flatten_cons, List.flatten_nil, List.append_nil]
    apply List.ext_getElem
    · simp
    · intro i h1 h2
      simp only [List.length_map, List.length_range] at h1
      simp [Nat.mod_eq_of_lt h1, h1]
theorem zeroCells_eq (z : Array Value) (n : Nat) : Builtin.zeroCells z n = (List.replicate n z.toList).flatten.toArray := by
  by_cases hz : 0 < z.size
  · exact madeCells_eq z n hz
  · have h0 : z.size = 0 := by omega
    have h1 : z.toList = [] := List.eq_nil_of_length_eq_zero (by simpa using h0)
    have h2 : (List.replicate n ([] : List Value)).flatten = [] := by simp
    rw [h1, h2]
    apply Array.eq_empty_of_size_eq_zero
    simp [Builtin.zeroCells, h0]
theorem add_add (a : Addr) (i j : Nat) : (a.add i).add j = a.add (i + j) := by
  unfold Addr.add
  by_cases hi : i = 0 <;> by_cases hj : j = 0 <;> simp [hi, hj, Nat.add_assoc]
theorem stCells_add' (a : Addr) (n : Nat) : ∀ (l : List Value) (m : Mem) (i : Nat), stCells m (a.add n) i l = stCells m a (n + i) l
  | [], m, i => rfl
  | v :: r, m, i => by
    simp only [stCells, add_add]
    split
    · congr 1; funext m'; rw [stCells_add' a n r m' (i + 1)]; rfl
    · rfl
theorem stCells_add (m : Mem) (a : Addr) (n : Nat) (l : List Value) : stCells m (a.add n) 0 l = stCells m a n l := stCells_add' a n l m 0
/-- append, at whatever it is given -/
theorem run_append {t e : TypeId} {i : TypeInfo} {z : Value} (hu : P.underlying t = some (.slice e)) (hi : P.info? e = some i) (hz : i.zero = some z) (_hsz : z.cells.size = i.size) (_hpos : 0 < i.size)
    {y : Value} {k : Nat} {news : List Value} (hlen : (match y with | .slice _ n _ => some n | .string s => some s.size | _ => none) = some k)
    (hfirst : ∀ w, absM w = m → (Builtin.firstCells i.size k y).run P w = .ok news.toArray w) {ats : Array TypeId} {at1 : TypeId} (h0 : ats[0]? = some t) (h1 : ats[1]? = some at1)
    {d1 : TypeDesc} (hu1 : P.underlying at1 = some d1) (hnz : d1 = .string ∨ ∃ e', d1 = .slice e') {ty : TypeId} {base : Option Addr} {n cap : Nat} (hw : absM w = m) (hx : appP i.size i.bytes z.cells.toList e m K base n cap news k) :
    ∃ v' w', (Builtin.append_ ats ty #[.slice base n cap, y]).run P w = .ok v' w' ∧ Side w w' ∧ K v' (absM w') := by
  obtain ⟨hb, h62, hin, hgrow⟩ := hx
  have hlenOf : (Builtin.lenOf y).run P w = .ok k w := by
    cases y <;> simp at hlen <;> simp [Builtin.lenOf, hlen]
  have hzr : (do pure ((← underlying at1) matches .int _) : Sem Bool).run P w = .ok false w := by
    rcases hnz with rfl | ⟨e', rfl⟩ <;> simp [run_underlying' hu1]
  by_cases hc : n + k ≤ cap
  · have hin := hin hc
    cases base with
    | none =>
      refine ⟨.slice none (n + k) cap, w, ?_, Side.rfl' w, by rw [hw]; exact hin⟩
      rcases hnz with rfl | ⟨e', rfl⟩ <;>
        simp [Builtin.append_, h0, h1, run_underlying' hu, run_underlying' hu1, run_sizeOf' hi, hlenOf, hc, hfirst w hw]
    | some a =>
      obtain ⟨m', hst, hk⟩ := hin
      subst hw
      obtain ⟨w', hrs, he, hs⟩ := run_storeCells (P := P) (a.add (n * i.size)) news 0 w m' (by rw [← hst]; exact stCells_add _ _ _ _)
      refine ⟨.slice (some a) (n + k) cap, w', ?_, hs, by rw [he]; exact hk⟩
      rcases hnz with rfl | ⟨e', rfl⟩ <;>
        simp [Builtin.append_, h0, h1, run_underlying' hu, run_underlying' hu1, run_sizeOf' hi, hlenOf, hc, hfirst w rfl, hrs]
  · have hlt : cap < n + k := by omega
    obtain ⟨old, hold, hk⟩ := hgrow hlt
    have hfit := growslice_fits hlt hb
    have hold' : ∀ w2, absM w2 = m → (Builtin.firstCells i.size n (.slice base n cap)).run P w2 = .ok old.toArray w2 := fun w2 hw2 => by
      cases base with
      | none => simp only [ldS, Option.some.injEq] at hold; subst hold; simp [Builtin.firstCells]
      | some b => simp only [ldS] at hold; simp [Builtin.firstCells, loadCells, run_loadCellsFrom hw2 b _ 0 _ _ hold]
    have hz' : ∀ w2, (zeroValue e).run P w2 = .ok z w2 := fun w2 => run_zeroValue' (P := P) (w := w2) hi hz
    let q := Question.appendCap (n + k) cap e
    let w2 : World := { w with drawn := w.drawn + 1 }
    let nc := q.cut (w.tape w.drawn q)
    have hnc : n + k ≤ nc := by simp only [nc, q, Question.cut]; omega
    have hcells := zeroCells_eq z.cells (nc - (n + k))
    have hfin := hk nc w.heap.size hnc (by rw [← hw]; exact absM_none w)
    refine ⟨.slice (some ⟨w.heap.size, 0, none⟩) (n + k) nc, { w2 with heap := w2.heap.push (.cells (old ++ news ++ (List.replicate (nc - (n + k)) z.cells.toList).flatten).toArray e) }, ?_, ⟨rfl, rfl, by simp [w2], rfl⟩, ?_⟩
    · have hnot : ¬ (281474976710656 < Builtin.nextslicecap (n + k) cap * i.bytes) := by omega
      have h63 : ¬ (9223372036854775807 < (n : Int) + k ∧ i.bytes = 0) := by omega
      have hold2 := hold' w2 hw
      have hfirst2 := hfirst w2 hw
      have hcap : (choose q).run P w = .ok nc w2 := by simp [q, nc, w2, Question.forced]
      simp only [q] at hcap
      rcases hnz with rfl | ⟨e', rfl⟩ <;>
        simp [Builtin.append_, h0, h1, run_underlying' hu, run_underlying' hu1, run_sizeOf' hi, hlenOf, hc, -run_choose, hcap, hold2, hfirst2, hz', run_typeInfo' hi, newRow, hcells, hnot]
      all_goals (rw [if_neg h63])
    · rw [absM_push]
      have : absM w2 = m := hw
      rw [this]
      exact hfin
/-- append of so many zero values -/
theorem run_appendn {t e : TypeId} {i : TypeInfo} {z : Value} (hu : P.underlying t = some (.slice e)) (hi : P.info? e = some i) (hz : i.zero = some z) (_hsz : z.cells.size = i.size) (_hpos : 0 < i.size)
    {k : Int} (h0 : 0 ≤ k) (hkb : k * (i.bytes : Int) ≤ 281474976710656) {ats : Array TypeId} {at1 : TypeId} (hat0 : ats[0]? = some t) (hat1 : ats[1]? = some at1)
    (hu1 : P.underlying at1 = some (.int .i64)) {ty : TypeId} {base : Option Addr} {n cap : Nat} (hw : absM w = m) (hx : appP i.size i.bytes z.cells.toList e m K base n cap (List.replicate k.toNat z.cells.toList).flatten k.toNat) :
    ∃ v' w', (Builtin.append_ ats ty #[.slice base n cap, .int .i64 k]).run P w = .ok v' w' ∧ Side w w' ∧ K v' (absM w') := by
  obtain ⟨hb, h62, hin, hgrow⟩ := hx
  have hkk : (k.toNat : Int) = k := Int.toNat_of_nonneg h0
  have hwrap : IntKind.i64.wrap k = k := wrap_i64 (by omega) (by omega)
  have hz' : ∀ w2, (zeroValue e).run P w2 = .ok z w2 := fun w2 => run_zeroValue' (P := P) (w := w2) hi hz
  have hA : k.toNat * i.size = 0 → (List.replicate k.toNat z.cells.toList).flatten = [] := fun hk0 => by
    have : k.toNat = 0 := by
      rcases Nat.mul_eq_zero.1 hk0 with h | h
      · exact h
      · omega
    simp [this]
  have hB := zeroCells_eq z.cells k.toNat
  have hneg : ¬ k < 0 := by omega
  have hbig : ¬ (281474976710656 < k * (i.bytes : Int)) := by omega
  generalize (List.replicate k.toNat z.cells.toList).flatten = news at *
  by_cases hc : n + k.toNat ≤ cap
  · have hin := hin hc
    cases base with
    | none =>
      refine ⟨.slice none (n + k.toNat) cap, w, ?_, Side.rfl' w, by rw [hw]; exact hin⟩
      by_cases hk0 : k.toNat * i.size = 0
      all_goals simp [hk0, Builtin.append_, hat0, hat1, run_underlying' hu, run_underlying' hu1, run_sizeOf' hi, run_typeInfo' hi, asInt, asIntOf, hwrap, hneg, hbig, hc, hz' w]
    | some a =>
      obtain ⟨m', hst, hk⟩ := hin
      subst hw
      obtain ⟨w', hrs, he, hs⟩ := run_storeCells (P := P) (a.add (n * i.size)) news 0 w m' (by rw [← hst]; exact stCells_add _ _ _ _)
      refine ⟨.slice (some a) (n + k.toNat) cap, w', ?_, hs, by rw [he]; exact hk⟩
      by_cases hk0 : k.toNat * i.size = 0
      · rw [hA hk0] at hrs
        simp [Builtin.append_, hat0, hat1, run_underlying' hu, run_underlying' hu1, run_sizeOf' hi, run_typeInfo' hi, asInt, asIntOf, hwrap, hneg, hbig, hc, hk0, hrs]
      · simp [Builtin.append_, hat0, hat1, run_underlying' hu, run_underlying' hu1, run_sizeOf' hi, run_typeInfo' hi, asInt, asIntOf, hwrap, hneg, hbig, hc, hk0, hz' w, hB, hrs]
  · have hlt : cap < n + k.toNat := by omega
    obtain ⟨old, hold, hk⟩ := hgrow hlt
    have hfit := growslice_fits hlt hb
    have hold' : ∀ w2, absM w2 = m → (Builtin.firstCells i.size n (.slice base n cap)).run P w2 = .ok old.toArray w2 := fun w2 hw2 => by
      cases base with
      | none => simp only [ldS, Option.some.injEq] at hold; subst hold; simp [Builtin.firstCells]
      | some b => simp only [ldS] at hold; simp [Builtin.firstCells, loadCells, run_loadCellsFrom hw2 b _ 0 _ _ hold]
    let q := Question.appendCap (n + k.toNat) cap e
    let w2 : World := { w with drawn := w.drawn + 1 }
    let nc := q.cut (w.tape w.drawn q)
    have hnc : n + k.toNat ≤ nc := by simp only [nc, q, Question.cut]; omega
    have hcells := zeroCells_eq z.cells (nc - (n + k.toNat))
    have hfin := hk nc w.heap.size hnc (by rw [← hw]; exact absM_none w)
    refine ⟨.slice (some ⟨w.heap.size, 0, none⟩) (n + k.toNat) nc, { w2 with heap := w2.heap.push (.cells (old ++ news ++ (List.replicate (nc - (n + k.toNat)) z.cells.toList).flatten).toArray e) }, ?_, ⟨rfl, rfl, by simp [w2], rfl⟩, ?_⟩
    · have hnot : ¬ (281474976710656 < Builtin.nextslicecap (n + k.toNat) cap * i.bytes) := by omega
      have h63 : ¬ (9223372036854775807 < (n : Int) + (k.toNat : Int)) := by omega
      have hold2 := hold' w2 hw
      have hcap : (choose q).run P w = .ok nc w2 := by simp [q, nc, w2, Question.forced]
      simp only [q] at hcap
      by_cases hk0 : k.toNat * i.size = 0
      · have hA := hA hk0
        simp [Builtin.append_, hat0, hat1, run_underlying' hu, run_underlying' hu1, run_sizeOf' hi, run_typeInfo' hi, asInt, asIntOf, hwrap, hneg, hbig, hc, -run_choose, hcap, hold2, hk0, hA, hz', newRow, hcells, hnot]
        all_goals first | done | (rw [if_neg (by omega)]; first | rfl | done)
      · simp [Builtin.append_, hat0, hat1, run_underlying' hu, run_underlying' hu1, run_sizeOf' hi, run_typeInfo' hi, asInt, asIntOf, hwrap, hneg, hbig, hc, -run_choose, hcap, hold2, hk0, hB, hz', newRow, hcells, hnot]
        all_goals first | done | (rw [if_neg (by omega)]; first | rfl | done)
    · rw [absM_push]
      have : absM w2 = m := hw
      rw [this]
      exact hfin
theorem append_x {o : Oper} {args : List Operand} {ats : Array TypeId} (ho : o.op = .call ⟨.builtin .append, ⟨args⟩, ats⟩) (h : resApp P ats args = some (ro, xl)) (hx : xs P ro (xl.map ρ) m K) : XStep P o ρ m K := by
  intro w hw
  unfold resApp at h
  split at h
  case h_2 => cases h
  rename_i e hu
  split at h
  · rename_i e' hu'
    obtain ⟨i, hi, h⟩ := Option.bind_eq_some_iff.1 h
    obtain ⟨z, hz, h⟩ := Option.bind_eq_some_iff.1 h
    split at h
    case isFalse => cases h
    rename_i hsz
    obtain ⟨rfl, rfl⟩ := some_pair h
    obtain ⟨t, ht, hu⟩ := Option.bind_eq_some_iff.1 hu
    obtain ⟨t', ht', hu'⟩ := Option.bind_eq_some_iff.1 hu'
    match args, hx with
    | [x, y], hx =>
      obtain ⟨base, n, cap, hxv, hx⟩ := sP_inv hx
      obtain ⟨b, k, cc, hyv, news, hnews, hx⟩ := sP_inv hx
      have := run_append (P := P) (w := w) (t := t) (e := e) hu hi hz hsz.1 hsz.2 (news := news) (y := .slice b k cc) (k := k) rfl (fun w hw => by
        cases b with
        | none => simp only [ldS, Option.some.injEq] at hnews; subst hnews; simp [Builtin.firstCells]
        | some b => simp only [ldS] at hnews; simp [Builtin.firstCells, loadCells, run_loadCellsFrom hw b _ 0 _ _ hnews]) (at1 := t') ht ht' hu' (.inr ⟨_, rfl⟩) (ty := o.type) hw hx
      obtain ⟨v', w', hr, hs, hk⟩ := this
      have hr' : (execOp ρ o).run P w = .ok (.value v') w' := by
        simp only [execOp, ho, resolve, List.map_toArray, List.map_cons, List.map_nil, Sem.run_bind, Sem.run_pure, Result.andThen_ok, invoke, builtin, hxv, hyv, hr]
      rw [hr']; exact ⟨hs, hk⟩
    | [], hx => exact hx.elim
    | [_], hx => exact hx.elim
    | _ :: _ :: _ :: _, hx => exact hx.elim
  · rename_i hu'
    obtain ⟨i, hi, h⟩ := Option.bind_eq_some_iff.1 h
    split at h
    case isFalse => cases h
    rename_i hsz
    obtain ⟨rfl, rfl⟩ := some_pair h
    obtain ⟨t, ht, hu⟩ := Option.bind_eq_some_iff.1 hu
    obtain ⟨t', ht', hu'⟩ := Option.bind_eq_some_iff.1 hu'
    have hz : i.zero = some (.int .u8 0) := by
      have := hsz.2.2
      unfold isU8 at this
      split at this
      · assumption
      · cases this
    match args, hx with
    | [x, y], hx =>
      obtain ⟨base, n, cap, hxv, hx⟩ := sP_inv hx
      obtain ⟨s, hyv, hx⟩ := zP_inv hx
      have := run_append (P := P) (w := w) (t := t) (e := e) hu hi hz (by rw [hsz.1]; rfl) (by rw [hsz.1]; omega) (news := s.data.toList.map fun c => .int .u8 c.toNat) (y := .string s) (k := s.size) rfl (fun w _ => by
        have : s.extract 0 s.size = s := by simp
        simp only [Builtin.firstCells, this, Sem.run_pure]
        congr 1
        apply Array.ext'
        simp) (at1 := t') ht ht' hu' (.inl rfl) (ty := o.type) hw (by rw [hsz.1, hsz.2.1]; exact hx)
      obtain ⟨v', w', hr, hs, hk⟩ := this
      have hr' : (execOp ρ o).run P w = .ok (.value v') w' := by
        simp only [execOp, ho, resolve, List.map_toArray, List.map_cons, List.map_nil, Sem.run_bind, Sem.run_pure, Result.andThen_ok, invoke, builtin, hxv, hyv, hr]
      rw [hr']; exact ⟨hs, hk⟩
    | [], hx => exact hx.elim
    | [_], hx => exact hx.elim
    | _ :: _ :: _ :: _, hx => exact hx.elim
  · rename_i hu'
    obtain ⟨i, hi, h⟩ := Option.bind_eq_some_iff.1 h
    obtain ⟨z, hz, h⟩ := Option.bind_eq_some_iff.1 h
    split at h
    case isFalse => cases h
    rename_i hsz
    obtain ⟨rfl, rfl⟩ := some_pair h
    obtain ⟨t, ht, hu⟩ := Option.bind_eq_some_iff.1 hu
    obtain ⟨t', ht', hu'⟩ := Option.bind_eq_some_iff.1 hu'
    match args, hx with
    | [x, y], hx =>
      obtain ⟨base, n, cap, hxv, hx⟩ := sP_inv hx
      obtain ⟨k, hyv, h0, hk, hx⟩ := iP_inv hx
      obtain ⟨v', w', hr, hs, hk⟩ := run_appendn (P := P) (w := w) (t := t) (e := e) hu hi hz hsz.1 hsz.2 h0 hk ht ht' hu' (ty := o.type) hw hx
      have hr' : (execOp ρ o).run P w = .ok (.value v') w' := by
        simp only [execOp, ho, resolve, List.map_toArray, List.map_cons, List.map_nil, Sem.run_bind, Sem.run_pure, Result.andThen_ok, invoke, builtin, hxv, hyv, hr]
      rw [hr']; exact ⟨hs, hk⟩
    | [], hx => exact hx.elim
    | [_], hx => exact hx.elim
    | _ :: _ :: _ :: _, hx => exact hx.elim
  · cases h
theorem copy_x {o : Oper} {args : List Operand} {ats : Array TypeId} (ho : o.op = .call ⟨.builtin .copy, ⟨args⟩, ats⟩) (h : resCopy P ats args = some (ro, xl)) (hx : xs P ro (xl.map ρ) m K) : XStep P o ρ m K := by
  intro w hw
  unfold resCopy at h
  split at h
  case h_2 => cases h
  rename_i e hu
  obtain ⟨i, hi, h⟩ := Option.map_eq_some_iff.1 h
  obtain ⟨rfl, rfl⟩ := Prod.mk.injEq .. ▸ h
  obtain ⟨t, ht, hu⟩ := Option.bind_eq_some_iff.1 hu
  match args, hx with
  | [x, y], hx =>
    obtain ⟨base, n, cap, hxv, hx⟩ := sP_inv hx
    obtain ⟨b, k, cc, hyv, cells, hcells, hx⟩ := sP_inv hx
    have hfirst : (Builtin.firstCells i.size (min k n) (.slice b k cc)).run P w = .ok cells.toArray w := by
      cases b with
      | none => simp only [ldS, Option.some.injEq] at hcells; subst hcells; simp [Builtin.firstCells]
      | some b => simp only [ldS] at hcells; simp [Builtin.firstCells, loadCells, run_loadCellsFrom hw b _ 0 _ _ hcells]
    have hmin : k.min n = min k n := rfl
    cases base with
    | none =>
      have hr' : (execOp ρ o).run P w = .ok (.value (.int .i64 (min k n : Nat))) w := by
        simp [execOp, ho, resolve, invoke, builtin, hxv, hyv, Builtin.copy_, ht, run_underlying' hu, Builtin.lenOf, run_sizeOf' hi, hmin, hfirst, goInt]
      rw [hr']; exact ⟨Side.rfl' w, by rw [hw]; exact hx⟩
    | some a =>
      obtain ⟨m', hst, hk⟩ := hx
      subst hw
      obtain ⟨w', hrs, he, hs⟩ := run_storeCells (P := P) a cells 0 w m' hst
      have hr' : (execOp ρ o).run P w = .ok (.value (.int .i64 (min k n : Nat))) w' := by
        simp [execOp, ho, resolve, invoke, builtin, hxv, hyv, Builtin.copy_, ht, run_underlying' hu, Builtin.lenOf, run_sizeOf' hi, hmin, hfirst, goInt, hrs]
      rw [hr']; exact ⟨hs, by rw [he]; exact hk⟩
  | [], hx => exact hx.elim
  | [_], hx => exact hx.elim
  | _ :: _ :: _ :: _, hx => exact hx.elim
theorem run_setObj_map {r : Nat} {es : Array MapEntry} {c : Nat} {o : Obj} (h : absM w r = some (.map es c)) : (setObj r o).run P w = .ok () { w with heap := w.heap.setIfInBounds r o } ∧ absM { w with heap := w.heap.setIfInBounds r o } = (absM w).set r o ∧ Side w { w with heap := w.heap.setIfInBounds r o } := by
  have h' : w.heap[r]? = some (.map es c) := h
  refine ⟨by simp [setObj, Sem.run, h'], ?_, ⟨rfl, rfl, by simp, rfl⟩⟩
  funext x
  simp only [absM, Mem.set, Array.getElem?_setIfInBounds]
  by_cases e : x = r
  · subst e
    have hlt : x < w.heap.size := (Array.getElem?_eq_some_iff.1 h').1
    simp [hlt]
  · have : r ≠ x := fun h => e h.symm
    simp [e, this]
theorem run_setObj_iter {r : Nat} {mm : Option Nat} {a b : Nat} {s : Array Nat} {o : Obj} (h : absM w r = some (.mapIter mm a s b)) : (setObj r o).run P w = .ok () { w with heap := w.heap.setIfInBounds r o } ∧ absM { w with heap := w.heap.setIfInBounds r o } = (absM w).set r o ∧ Side w { w with heap := w.heap.setIfInBounds r o } := by
  have h' : w.heap[r]? = some (.mapIter mm a s b) := h
  refine ⟨by simp [setObj, Sem.run, h'], ?_, ⟨rfl, rfl, by simp, rfl⟩⟩
  funext x
  simp only [absM, Mem.set, Array.getElem?_setIfInBounds]
  by_cases e : x = r
  · subst e
    have hlt : x < w.heap.size := (Array.getElem?_eq_some_iff.1 h').1
    simp [hlt]
  · have : r ≠ x := fun h => e h.symm
    simp [e, this]
theorem run_getObj_iter {r : Nat} {mm : Option Nat} {a b : Nat} {s : Array Nat} (h : absM w r = some (.mapIter mm a s b)) : (getObj r).run P w = .ok (.mapIter mm a s b) w := by
  have h' : w.heap[r]? = some (.mapIter mm a s b) := h
  simp [getObj, Sem.run, h']
theorem delete_x {o : Oper} {args : List Operand} {ats : Array TypeId} (ho : o.op = .call ⟨.builtin .delete, ⟨args⟩, ats⟩) (h : resDelete P ats args = some (ro, xl)) (hx : xs P ro (xl.map ρ) m K) : XStep P o ρ m K := by
  intro w hw
  subst hw
  unfold resDelete at h
  obtain ⟨⟨ag, ks, e⟩, hk, h⟩ := Option.map_eq_some_iff.1 h
  obtain ⟨rfl, rfl⟩ := Prod.mk.injEq .. ▸ h
  obtain ⟨t, ht, hk⟩ := Option.bind_eq_some_iff.1 hk
  unfold resKey at hk
  split at hk
  case h_2 => cases hk
  rename_i k e' hu
  obtain ⟨ks', hl, hk⟩ := Option.map_eq_some_iff.1 hk
  simp only [Prod.mk.injEq] at hk
  obtain ⟨rfl, rfl, rfl⟩ := hk
  match args, hx with
  | [x, y], hx =>
    obtain ⟨r, hr, hx⟩ := mP_inv hx
    cases r with
    | none =>
      obtain ⟨hok, hK⟩ := hx
      have h1 := checkKey_ok (w := w) (em := true) hl hok
      have : (execOp ρ o).run P w = .ok (.value (.tuple #[])) w := by
        simp [execOp, ho, resolve, invoke, builtin, Builtin.delete_, ht, run_underlying' hu, hr, h1]
      rw [this]; exact ⟨Side.rfl' w, hK⟩
    | some r =>
      obtain ⟨hok, es, clock, hm, f, hf, hK⟩ := hx
      have h1 := checkKey_ok (w := w) (em := es.isEmpty) hl hok
      have h2 := findKey_ok (w := w) hl (keyOk_iff hok).1 hf
      cases f with
      | none =>
        obtain ⟨s1, s2, s3⟩ := run_setObj_map (P := P) (o := .map es clock) hm
        have : (execOp ρ o).run P w = .ok (.value (.tuple #[])) { w with heap := w.heap.setIfInBounds r (.map es clock) } := by
          simp [execOp, ho, resolve, invoke, builtin, Builtin.delete_, ht, run_underlying' hu, hr, h1, h2, run_getObj_map hm, s1]
        rw [this]; exact ⟨s3, by rw [s2]; exact hK⟩
      | some iv =>
        obtain ⟨i, v⟩ := iv
        obtain ⟨s1, s2, s3⟩ := run_setObj_map (P := P) (o := .map (es.eraseIdxIfInBounds i) clock) hm
        have : (execOp ρ o).run P w = .ok (.value (.tuple #[])) { w with heap := w.heap.setIfInBounds r (.map (es.eraseIdxIfInBounds i) clock) } := by
          simp [execOp, ho, resolve, invoke, builtin, Builtin.delete_, ht, run_underlying' hu, hr, h1, h2, run_getObj_map hm, s1]
        rw [this]; exact ⟨s3, by rw [s2]; exact hK⟩
  | [], hx => exact hx.elim
  | [_], hx => exact hx.elim
  | _ :: _ :: _ :: _, hx => exact hx.elim
theorem clear_x {o : Oper} {args : List Operand} {ats : Array TypeId} (ho : o.op = .call ⟨.builtin .clear, ⟨args⟩, ats⟩) (h : resClear P ats args = some (ro, xl)) (hx : xs P ro (xl.map ρ) m K) : XStep P o ρ m K := by
  intro w hw
  subst hw
  unfold resClear at h
  split at h
  · rename_i e hu
    obtain ⟨z, hz, h⟩ := Option.map_eq_some_iff.1 h
    obtain ⟨rfl, rfl⟩ := Prod.mk.injEq .. ▸ h
    obtain ⟨t, ht, hu⟩ := Option.bind_eq_some_iff.1 hu
    unfold zeroOf at hz
    obtain ⟨inf, hi, hz⟩ := Option.bind_eq_some_iff.1 hz
    obtain ⟨z', hz', rfl⟩ := Option.map_eq_some_iff.1 hz
    match args, hx with
    | [x], hx =>
      obtain ⟨a, n, c, hv, hx⟩ := sP_inv hx
      cases a with
      | none =>
        have : (execOp ρ o).run P w = .ok (.value (.tuple #[])) w := by
          simp [execOp, ho, resolve, invoke, builtin, Builtin.clear_, ht, run_underlying' hu, hv]
        rw [this]; exact ⟨Side.rfl' w, hx⟩
      | some a =>
        obtain ⟨m', hst, hK⟩ := hx
        by_cases hn : n = 0
        · subst hn
          simp only [List.replicate_zero, List.flatten_nil, stCells, Option.some.injEq] at hst
          have : (execOp ρ o).run P w = .ok (.value (.tuple #[])) w := by
            simp [execOp, ho, resolve, invoke, builtin, Builtin.clear_, ht, run_underlying' hu, hv]
          rw [this]; exact ⟨Side.rfl' w, by rw [hst]; exact hK⟩
        · obtain ⟨w', hrs, he, hs⟩ := run_storeCells (P := P) a _ 0 w m' hst
          have hz0 : (zeroValue e).run P w = .ok z' w := run_zeroValue' hi hz'
          have hzc : (Builtin.zeroCells z'.cells n).toList = (List.replicate n z'.cells.toList).flatten := by rw [zeroCells_eq]
          rw [← hzc] at hrs
          have : (execOp ρ o).run P w = .ok (.value (.tuple #[])) w' := by
            simp [execOp, ho, resolve, invoke, builtin, Builtin.clear_, ht, run_underlying' hu, hv, hn, hz0, hrs]
          rw [this]; exact ⟨hs, by rw [he]; exact hK⟩
    | [], hx => exact hx.elim
    | _ :: _ :: _, hx => exact hx.elim
  · rename_i k e hu
    obtain ⟨rfl, rfl⟩ := some_pair h
    obtain ⟨t, ht, hu⟩ := Option.bind_eq_some_iff.1 hu
    match args, hx with
    | [x], hx =>
      obtain ⟨r, hv, hx⟩ := mP_inv hx
      cases r with
      | none =>
        have : (execOp ρ o).run P w = .ok (.value (.tuple #[])) w := by
          simp [execOp, ho, resolve, invoke, builtin, Builtin.clear_, ht, run_underlying' hu, hv]
        rw [this]; exact ⟨Side.rfl' w, hx⟩
      | some r =>
        obtain ⟨es, clock, hm, hK⟩ := hx
        obtain ⟨s1, s2, s3⟩ := run_setObj_map (P := P) (o := .map #[] clock) hm
        have : (execOp ρ o).run P w = .ok (.value (.tuple #[])) { w with heap := w.heap.setIfInBounds r (.map #[] clock) } := by
          simp [execOp, ho, resolve, invoke, builtin, Builtin.clear_, ht, run_underlying' hu, hv, run_getObj_map hm, s1]
        rw [this]; exact ⟨s3, by rw [s2]; exact hK⟩
    | [], hx => exact hx.elim
    | _ :: _ :: _, hx => exact hx.elim
  · cases h
theorem digits_one : ∀ (n t : Nat) (acc : Array Value), (∀ v ∈ acc.toList, v.oneCell' = true) → (Extern.BytealgMakeNoZero.digits n t acc).size = acc.size + n ∧ ∀ v ∈ (Extern.BytealgMakeNoZero.digits n t acc).toList, v.oneCell' = true
  | 0, t, acc, h => ⟨by simp [Extern.BytealgMakeNoZero.digits], by simpa [Extern.BytealgMakeNoZero.digits] using h⟩
  | n + 1, t, acc, h => by
    obtain ⟨h1, h2⟩ := digits_one n (t / 256) (acc.push (.int .u8 (Int.ofNat (t % 256)))) (fun v hv => by
      simp only [Array.toList_push, List.mem_append, List.mem_singleton] at hv
      rcases hv with hv | rfl
      · exact h v hv
      · rfl)
    refine ⟨?_, h2⟩
    simp only [Extern.BytealgMakeNoZero.digits]
    rw [h1]; simp; omega
theorem mnz_run {w : World} {ps rs : Array TypeId} {t e : TypeId} {n : Int} (h0 : rs[0]? = some t) (hu : P.underlying t = some (.slice e)) (hx : mnzP e (absM w) K n) :
    ∃ w' v', (Extern.BytealgMakeNoZero.makeNoZero ps rs #[.int .i64 n]).run P w = .ok v' w' ∧ Side w w' ∧ K v' (absM w') := by
  obtain ⟨hn0, hn1, hx⟩ := hx
  let q := Question.appendCap n.toNat 0 e
  let nc := q.cut (w.tape w.drawn q)
  have hnc : n.toNat ≤ nc := by simp only [nc, q, Question.cut]; omega
  have hcap : (choose q).run P w = .ok nc { w with drawn := w.drawn + 1 } := by simp [q, nc, Question.forced]
  let w1 : World := { w with drawn := w.drawn + 1 }
  let q2 : Question := .extern "internal/bytealg.MakeNoZero.bytes" 0
  let bytes := q2.cut (w1.tape w1.drawn q2)
  have hcap2 : (choose q2).run P w1 = .ok bytes { w1 with drawn := w1.drawn + 1 } := by simp [q2, bytes, Question.forced]
  obtain ⟨d1, d2⟩ := digits_one nc bytes #[] (by simp)
  have hK := hx nc (Extern.BytealgMakeNoZero.digits nc bytes #[]).toList w.heap.size hnc (by simpa using d1) d2 (absM_none w)
  refine ⟨{ w with drawn := w.drawn + 1 + 1, heap := w.heap.push (.cells (Extern.BytealgMakeNoZero.digits nc bytes #[]) e) }, .slice (some ⟨w.heap.size, 0, none⟩) n.toNat nc, ?_, ?_, ?_⟩
  · have hdef : Extern.BytealgMakeNoZero.makeNoZero ps rs #[.int .i64 n] = (do
        let some t := rs[0]? | stuck "bytealg.MakeNoZero: no result type"
        let .slice elem ← underlying t | stuck "bytealg.MakeNoZero: slice type expected"
        if n < 0 || n > 2 ^ 48 then runtimePanic (.error "makeslice: len out of range")
        let cap ← choose (.appendCap n.toNat 0 elem)
        askRoom cap
        let bytes ← choose (.extern "internal/bytealg.MakeNoZero.bytes" 0)
        let a ← newRow elem (Extern.BytealgMakeNoZero.digits cap bytes #[])
        pure (.slice (some a) n.toNat cap)) := rfl
    rw [hdef]
    have e1 : (decide (n < 0) || decide (n > 2 ^ 48)) = false := by
      have h1 : ¬ n > 2 ^ 48 := by omega
      have h2 : ¬ n < 0 := by omega
      simp [h2]; omega
    have h1 : ¬ n > 2 ^ 48 := by omega
    have h2 : ¬ n < 0 := by omega
    have hcap' : (choose (Question.appendCap n.toNat 0 e)).run P w = .ok nc w1 := hcap
    have hcap2' : (choose (Question.extern "internal/bytealg.MakeNoZero.bytes" 0)).run P w1 = .ok bytes { w1 with drawn := w1.drawn + 1 } := hcap2
    clear_value nc bytes
    simp [h0, run_underlying' hu, h1, h2, hcap', hcap2', newRow, -run_choose]
    rw [if_neg (by omega)]
    rfl
  · exact ⟨rfl, rfl, by simp, rfl⟩
  · have : absM { w with drawn := w.drawn + 1 + 1, heap := w.heap.push (.cells (Extern.BytealgMakeNoZero.digits nc bytes #[]) e) } = (absM w).set w.heap.size (.cells (Extern.BytealgMakeNoZero.digits nc bytes #[]) e) := by
      rw [← absM_push]; rfl
    rw [this]
    simpa using hK
theorem run_loadB : ∀ (n i : Nat) (l : List Value) (bs : List UInt8) (b : Nat) (arr : Array Value) (t : TypeId) (fr : Nat × Nat) (acc : ByteArray) (w : World), absM w b = some (.cells arr t fr) → arr.toList.drop i = l → n ≤ l.length → bytesIn (l.take n) = some bs →
    (loadBytes ⟨b, i, none⟩ acc n).run P w = .ok ⟨acc.data ++ bs.toArray⟩ w
  | 0, i, l, bs, b, arr, t, fr, acc, w, hm, hl, hn, hb => by simp only [List.take_zero, bytesIn, Option.some.injEq] at hb; subst hb; simp [loadBytes]
  | n + 1, i, l, bs, b, arr, t, fr, acc, w, hm, hl, hn, hb => by
    cases l with
    | nil => simp at hn
    | cons v l =>
      simp only [List.take_succ_cons] at hb
      cases v <;> first | (simp [bytesIn] at hb; done) | skip
      rename_i k x
      cases k <;> first | (simp [bytesIn] at hb; done) | skip
      simp only [bytesIn, Option.map_eq_some_iff] at hb
      obtain ⟨bs', hb', rfl⟩ := hb
      have hi : arr[i]? = some (.int .u8 x) := by
        have : (arr.toList.drop i)[0]? = some (.int .u8 x) := by rw [hl]; rfl
        simpa using this
      have hc : w.cell? ⟨b, i, none⟩ = some (.int .u8 x) := by
        have hm : w.heap[b]? = some (.cells arr t fr) := hm
        unfold World.cell?
        simp [hm, hi]
      have hl2 : arr.toList.drop (i + 1) = l := by
        have : (arr.toList.drop i).drop 1 = l := by rw [hl]; rfl
        simpa [List.drop_drop, Nat.add_comm] using this
      have ih := run_loadB n (i + 1) l bs' b arr t fr (acc.push x.toNat.toUInt8) w hm hl2 (by simpa using hn) hb'
      have ea : (⟨b, i, none⟩ : Addr).add 1 = ⟨b, i + 1, none⟩ := by simp [Addr.add]
      simp only [loadBytes, Sem.run_bind, run_load, hc, Result.andThen, ea]
      rw [ih]
      congr 1
      apply ByteArray.ext
      simp [ByteArray.push]
theorem liesAt_row {e : TypeId} (hc : P.cellsOf e = 1) (count n : Nat) (hn : n ≤ count) : liesAt P P.depth e count 0 e n = true := by
  have hd : P.depth = (2 * (P.types.size + Made.depth) + 1) + 1 := rfl
  rw [hd]
  simp only [liesAt, Bool.or_eq_true]
  left
  rw [hd]
  simp [rowAt, hc, hn, sameLayout]
theorem absM_freeze {w : World} {b n : Nat} {arr : Array Value} {t : TypeId} {fr : Nat × Nat} (hm : absM w b = some (.cells arr t fr)) (hn : ¬ n = 0) : ∃ fr', absM (w.freeze ⟨b, 0, none⟩ n) = (absM w).set b (.cells arr t fr') := by
  have hm : w.heap[b]? = some (.cells arr t fr) := hm
  obtain ⟨lo, hi⟩ := fr
  refine ⟨if lo == hi then (0, 0 + n) else (min lo 0, max hi (0 + n)), ?_⟩
  funext c
  unfold World.freeze
  rw [if_neg hn]
  simp only [absM, Mem.set, Array.getElem?_modify]
  by_cases eb : c = b
  · subst eb; simp only [if_true, hm, Option.map_some]
  · have : b ≠ c := fun h => eb h.symm
    simp [eb, this]
theorem ust_run {w : World} {ats : Array TypeId} {ty pt e : TypeId} {p : Option Addr} {n : Int} (h0 : ats[0]? = some pt) (hu : P.underlying pt = some (.pointer e)) (_hsz : ats.size = 2) (hc : P.cellsOf e = 1) (hx : ustP e (absM w) K p n) :
    ∃ w' v', (Builtin.unsafeString_ ats ty #[.pointer p, .int .i64 n]).run P w = .ok v' w' ∧ Side w w' ∧ K v' (absM w') := by
  obtain ⟨hn0, hn1, hx⟩ := hx
  have hmax : IntKind.i64.max = 9223372036854775807 := rfl
  have hneg : ¬ n < 0 := by omega
  have h63 : ¬ (9223372036854775807 : Int) < n := by omega
  by_cases hz : n = 0
  · subst hz
    rw [if_pos rfl] at hx
    refine ⟨w, .string .empty, ?_, Side.rfl' w, hx⟩
    cases p with
    | none =>
      have hdef : Builtin.unsafeString_ ats ty #[.pointer none, .int .i64 0] = (do
          let n ← asInt (.int .i64 0)
          let some _pt := ats[0]? | stuck "unsafe.String: no argument types"
          if n < 0 then runtimePanic (.error "unsafe.String: len out of range")
          if n > IntKind.i64.max then unsupported (.unsafePointer "String: a length above the largest int")
          if n = 0 then pure (.string .empty)
          else runtimePanic (.error "unsafe.String: ptr is nil and len is not zero")) := rfl
      rw [hdef]
      simp [asInt, asIntOf, hmax, h0]
    | some a =>
      have hdef : Builtin.unsafeString_ ats ty #[.pointer (some a), .int .i64 0] = (do
          let n ← asInt (.int .i64 0)
          let some pt := ats[0]? | stuck "unsafe.String: no argument types"
          if n < 0 then runtimePanic (.error "unsafe.String: len out of range")
          if n > IntKind.i64.max then unsupported (.unsafePointer "String: a length above the largest int")
          if n = 0 then pure (.string .empty)
          else if ← variablesAt a (← elemOf pt) n.toNat then do
            let s ← loadBytes a .empty n.toNat
            freeze a n.toNat
            pure (.string s)
          else unsupported (.unsafePointer "String: not so many bytes at ptr")) := rfl
      rw [hdef]
      simp [asInt, asIntOf, hmax, h0]
  · rw [if_neg hz] at hx
    obtain ⟨b, arr, fr, rfl, hm, hle, bs, hbs, hK⟩ := hx
    have hsh : w.shape? b = some (e, arr.size) := by
      have hm : w.heap[b]? = some (.cells arr e fr) := hm
      unfold World.shape?; rw [hm]
    have hl := liesAt_row (P := P) hc (arr.size / P.cellsOf e) n.toNat (by rw [hc]; simpa using hle)
    have hlb := run_loadB (P := P) n.toNat 0 arr.toList bs b arr e fr .empty w hm (by simp) (by simpa using hle) hbs
    have hnn : ¬ n.toNat = 0 := by omega
    obtain ⟨fr', hfr⟩ := absM_freeze hm hnn
    have hK := hK fr'
    rw [← hfr] at hK
    refine ⟨w.freeze ⟨b, 0, none⟩ n.toNat, .string ⟨bs.toArray⟩, ?_, ?_, hK⟩
    · have hdef : Builtin.unsafeString_ ats ty #[.pointer (some ⟨b, 0, none⟩), .int .i64 n] = (do
          let n ← asInt (.int .i64 n)
          let some pt := ats[0]? | stuck "unsafe.String: no argument types"
          if n < 0 then runtimePanic (.error "unsafe.String: len out of range")
          if n > IntKind.i64.max then unsupported (.unsafePointer "String: a length above the largest int")
          if n = 0 then pure (.string .empty)
          else if ← variablesAt ⟨b, 0, none⟩ (← elemOf pt) n.toNat then do
            let s ← loadBytes ⟨b, 0, none⟩ .empty n.toNat
            freeze ⟨b, 0, none⟩ n.toNat
            pure (.string s)
          else unsupported (.unsafePointer "String: not so many bytes at ptr")) := rfl
      rw [hdef]
      simp [asInt, asIntOf, hmax, h63, hneg, hz, h0, variablesAt, hsh, elemOf, run_underlying' hu, hl, hlb]
    · refine ⟨?_, ?_, ?_, ?_⟩ <;> unfold World.freeze <;> rw [if_neg hnn] <;> simp
theorem call_x {o : Oper} {c : Call} (ho : o.op = .call c) (h : resCall P c c.args.toList = some (ro, xl)) (hx : xs P ro (xl.map ρ) m K) (hq : ro.quiet = false) (hρ : ∀ f, ρ (.func f) = .func (.func f) #[] #[]) : XStep P o ρ m K := by
  obtain ⟨callee, args, argTypes⟩ := c
  obtain ⟨args⟩ := args
  simp only [resCall] at h
  cases callee with
  | invoke r n => cases h
  | value f =>
    intro w hw
    simp only [resVal] at h
    cases f with
    | func f =>
      simp only at h
      obtain ⟨fn, hf, h⟩ := Option.bind_eq_some_iff.1 h
      split at h
      · rename_i hb
        obtain ⟨rfl, rfl⟩ := some_pair h
        simp only [Bool.and_eq_true] at hb
        have hname : fn.name ≠ "runtime.NumGoroutine" := by simpa using hb.2
        have hbody : fn.body ≠ none := by intro hh; simp [hh] at hb
        have hc := hx w hw
        have hr : (execOp ρ o).run P w = .ok (.enter f (args.map ρ).toArray) w := by
          simp [execOp, ho, resolve, hρ, Deferred.ofValue, invoke, callFunc, hf, hname, hbody]
        rw [hr]
        exact ⟨Side.rfl' w, hc⟩
      · split at h
        · obtain ⟨rfl, rfl⟩ := some_pair h; simp [RO.quiet] at hq
        · unfold resExt at h
          split at h
          · obtain ⟨rfl, rfl⟩ := some_pair h; simp [RO.quiet] at hq
          · split at h
            · rename_i hb
              simp only [Bool.and_eq_true, beq_iff_eq] at hb
              obtain ⟨⟨hb, hname⟩, horg⟩ := hb
              obtain ⟨h1, h2⟩ := ext_mnz hname horg
              split at h
              · rename_i e hu
                obtain ⟨t, h0, hu⟩ := Option.bind_eq_some_iff.1 hu
                obtain ⟨rfl, rfl⟩ := some_pair h
                subst hw
                match args, hx with
                | [x], hx =>
                  obtain ⟨n, hv, hx⟩ := iP_inv hx
                  obtain ⟨w', v', hr, hs, hK⟩ := mnz_run (P := P) (w := w) (ps := fn.params) h0 hu hx
                  have := run_callFunc_extern hf (by rw [hname]; decide) hb h1 h2 #[.int .i64 n] w
                  rw [hr] at this
                  simp only [Result.andThen_ok] at this
                  have hrun : (execOp ρ o).run P w = .ok (.value v') w' := by
                    simp only [execOp, ho, resolve, hρ, List.map_toArray, List.map_cons, List.map_nil, Sem.run_bind, Sem.run_pure, Result.andThen_ok, Deferred.ofValue, invoke, hv, Array.append_empty, Array.empty_append, this]
                  rw [hrun]
                  exact ⟨hs, hK⟩
                | [], hx => simp [xs] at hx
                | _ :: _ :: _, hx => simp [xs] at hx
              · cases h
            · split at h
              · obtain ⟨rfl, rfl⟩ := some_pair h; simp [RO.quiet] at hq
              · cases h
    | tmp t =>
      obtain ⟨rfl, rfl⟩ := some_pair h
      have hx : fP (fun f first captured => callable P f = true ∧ MC P f (first ++ args.map ρ ++ captured) m K) (ρ (.tmp t)) := hx
      obtain ⟨g, first, captured, hv, hcall, hx⟩ := fP_inv hx
      unfold callable at hcall
      split at hcall
      · rename_i fn hf
        simp only [Bool.and_eq_true] at hcall
        have hname : fn.name ≠ "runtime.NumGoroutine" := by simpa using hcall.2
        have hbody : fn.body ≠ none := by intro hh; simp [hh] at hcall
        have hc := hx w hw
        have e : (first.toList ++ args.map ρ ++ captured.toList).toArray = first ++ (args.map ρ).toArray ++ captured := by
          apply Array.ext'; simp
        have hr : (execOp ρ o).run P w = .ok (.enter g (first ++ (args.map ρ).toArray ++ captured)) w := by
          simp [execOp, ho, resolve, hv, Deferred.ofValue, invoke, callFunc, hf, hname, hbody]
        rw [hr, ← e]
        exact ⟨Side.rfl' w, hc⟩
      · cases hcall
    | _ => cases h
  | builtin b =>
    simp only [resBuiltin] at h
    split at h
    · unfold resLen at h
      split at h <;> first | (cases h; done) | (obtain ⟨rfl, rfl⟩ := some_pair h; simp [RO.quiet] at hq)
    · exact append_x ho h hx
    · exact copy_x ho h hx
    · obtain ⟨rfl, rfl⟩ := some_pair h; simp [RO.quiet] at hq
    · obtain ⟨rfl, rfl⟩ := some_pair h; simp [RO.quiet] at hq
    · exact delete_x ho h hx
    · exact clear_x ho h hx
    · unfold resCap at h
      split at h <;> first | (cases h; done) | (obtain ⟨rfl, rfl⟩ := some_pair h; simp [RO.quiet] at hq)
    · obtain ⟨rfl, rfl⟩ := some_pair h; simp [RO.quiet] at hq
    · unfold resUst at h
      split at h
      · rename_i e hu
        obtain ⟨pt, h0, hu⟩ := Option.bind_eq_some_iff.1 hu
        split at h
        · rename_i hsz
          obtain ⟨rfl, rfl⟩ := some_pair h
          intro w hw
          subst hw
          match args, hx with
          | [x, y], hx =>
            obtain ⟨p, hv, hx⟩ := qP_inv hx
            obtain ⟨n, hv2, hx⟩ := iP_inv hx
            obtain ⟨w', v', hr, hs, hK⟩ := ust_run (P := P) (w := w) (ty := o.type) h0 hu hsz.1 hsz.2 hx
            have hrun : (execOp ρ o).run P w = .ok (.value v') w' := by
              simp only [execOp, ho, resolve, List.map_toArray, List.map_cons, List.map_nil, Sem.run_bind, Sem.run_pure, Result.andThen_ok, invoke, builtin, hv, hv2, hr]
            rw [hrun]
            exact ⟨hs, hK⟩
          | [], hx => simp [xs] at hx
          | [_], hx => simp [xs] at hx
          | _ :: _ :: _ :: _, hx => simp [xs] at hx
        · cases h
      · cases h
    · cases h
theorem update_x {t : TypeId} {a k x : Operand} {n : Sem Next} (h : (resKey P t).map (fun z => (RO.mup z.1 z.2.1, [a, k, x])) = some (ro, xl)) (hx : xs P ro (xl.map ρ) m K)
    (hn : ∀ w : World, n.run P w = ((Instr.mapUpdate t (ρ a) (ρ k) (ρ x)).run P w).andThen fun _ w' => .ok .skip w') : ∀ w, absM w = m → XUpon P w K (n.run P w) := by
  intro w hw
  subst hw
  obtain ⟨⟨ag, ks, e⟩, hk, h⟩ := Option.map_eq_some_iff.1 h
  obtain ⟨rfl, rfl⟩ := Prod.mk.injEq .. ▸ h
  unfold resKey at hk
  split at hk
  case h_2 => cases hk
  rename_i kt e' hu
  obtain ⟨ks', hl, hk⟩ := Option.map_eq_some_iff.1 hk
  simp only [Prod.mk.injEq] at hk
  obtain ⟨rfl, rfl, rfl⟩ := hk
  obtain ⟨r, hv, b, rfl, hok, es, clock, hm, f, hf, hK⟩ := mP_inv hx
  have h1 := checkKey_ok (w := w) (em := false) hl hok
  have h2 := findKey_ok (w := w) hl (keyOk_iff hok).1 hf
  have h3 := stays_ok (P := P) (w := w) hok
  rw [hn]
  cases f with
  | none =>
    obtain ⟨s1, s2, s3⟩ := run_setObj_map (P := P) (o := .map (es.push { key := ρ k, val := ρ x, born := clock }) (clock + 1)) hm
    have : (Instr.mapUpdate t (ρ a) (ρ k) (ρ x)).run P w = .ok () { w with heap := w.heap.setIfInBounds b (.map (es.push { key := ρ k, val := ρ x, born := clock }) (clock + 1)) } := by
      simp [Instr.mapUpdate, run_underlying' hu, hv, run_getObj_map hm, h1, h2, s1]
    rw [this]; exact ⟨s3, by rw [s2]; exact hK⟩
  | some iv =>
    obtain ⟨i, v⟩ := iv
    obtain ⟨n0, e0, hn0, he0, hke, _⟩ := findE_at (keyOk_iff hok).1 hf
    have hi : (es[i]?).map (·.key) = some (ρ k) := by
      rw [Nat.zero_add] at hn0
      subst hn0
      rw [← Array.getElem?_toList, he0]; simp [hke]
    obtain ⟨s1, s2, s3⟩ := run_setObj_map (P := P) (o := .map (es.modify i fun e => { e with key := ρ k, val := ρ x }) clock) hm
    have : (Instr.mapUpdate t (ρ a) (ρ k) (ρ x)).run P w = .ok () { w with heap := w.heap.setIfInBounds b (.map (es.modify i fun e => { e with key := ρ k, val := ρ x }) clock) } := by
      simp [Instr.mapUpdate, run_underlying' hu, hv, run_getObj_map hm, h1, h2, hi, h3, s1, -Option.getD_map]
    rw [this]; exact ⟨s3, by rw [s2]; exact hK⟩
def cands (since : Nat) (seen : Array Nat) (es : Array MapEntry) : Array (Option MapEntry) :=
  (if ((es.filter fun e => !seen.contains e.born).filter fun e => decide (e.born < since)).isEmpty then #[none] else #[]) ++
    (((es.filter fun e => !seen.contains e.born).filter fun e => decide (e.born < since)) ++ ((es.filter fun e => !seen.contains e.born).filter fun e => decide (e.born ≥ since))).map some
theorem cands_pos (since : Nat) (seen : Array Nat) (es : Array MapEntry) : 0 < (cands since seen es).size := by
  unfold cands
  generalize (es.filter fun e => !seen.contains e.born).filter (fun e => decide (e.born < since)) = old
  by_cases ho : old.isEmpty = true
  · simp only [ho, if_true, Array.size_append]; simp; omega
  · have : 0 < old.size := by
      rcases Nat.eq_zero_or_pos old.size with h | h
      · exact absurd (by simpa [Array.isEmpty_iff_size_eq_zero] using h) ho
      · exact h
    simp only [Array.size_append, Array.size_map]; omega
theorem cands_none {since : Nat} {seen : Array Nat} {es : Array MapEntry} (h : none ∈ cands since seen es) : ∀ e ∈ es.toList, seen.contains e.born = false → ¬ e.born < since := by
  intro e he hs hlt
  unfold cands at h
  simp only [Array.mem_append, Array.mem_map, reduceCtorEq, and_false, exists_false, or_false] at h
  split at h
  · rename_i ho
    have : e ∈ (es.filter fun e => !seen.contains e.born).filter fun e => decide (e.born < since) := by
      simp only [Array.mem_filter, decide_eq_true_eq, Bool.not_eq_true']
      exact ⟨⟨Array.mem_toList_iff.1 he, hs⟩, hlt⟩
    rw [Array.isEmpty_iff.1 ho] at this
    simp at this
  · simp at h
theorem cands_some {since : Nat} {seen : Array Nat} {es : Array MapEntry} {e : MapEntry} (h : some e ∈ cands since seen es) : e ∈ es.toList ∧ seen.contains e.born = false := by
  unfold cands at h
  simp only [Array.mem_append, Array.mem_map, Option.some.injEq, exists_eq_right, Array.mem_filter, Bool.not_eq_true'] at h
  rcases h with h | h | h
  · split at h <;> simp at h
  · exact ⟨Array.mem_toList_iff.2 h.1.1, h.1.2⟩
  · exact ⟨Array.mem_toList_iff.2 h.1.1, h.1.2⟩
theorem next_run {b mb since last clock : Nat} {seen : Array Nat} {es : Array MapEntry} {s : Option Nat} {ty : TypeId} (hg : (getObj b).run P w = .ok (.mapIter (some mb) since seen last) w) (hgm : (getObj mb).run P w = .ok (.map es clock) w)
    (hbad : (!seen.isEmpty && !es.isEmpty && es.all (fun x => decide (x.born ≥ last))) = false) :
    (Instr.next (.pointer (some ⟨b, 0, s⟩)) false ty).run P w = ((choose (.mapNext (cands since seen es).size)).run P w).andThen fun i w' =>
      (match (cands since seen es)[i]? with
        | some (some e) => do
          setObj b (.mapIter (some mb) since (seen.push e.born) clock)
          pure (.tuple #[.bool true, e.key, e.val])
        | some none => pure (.tuple #[.bool false])
        | none => stuck "Next: no such candidate" : Sem Value).run P w' := by
  simp only [Instr.next, Sem.run_bind, hg, Result.andThen_ok, hgm, hbad, Bool.false_eq_true, if_false]
  rfl
theorem next_x {it : Operand} {dst : Option Tmp} {type : TypeId} {pos : String} {after : Array Edge} {guard : Option (Nat × Bool)} {a : Addr} (hv : ρ it = .pointer (some a)) (hx : nxtP (absM w) K a) :
    XUpon P w K ((execOp ρ { dst := dst, op := Op.next it false, type := type, pos := pos, after := after, guard := guard }).run P w) := by
  obtain ⟨b, o, s⟩ := a
  obtain ⟨ho, r, since, seen, last, hb, hx⟩ := hx
  simp only at ho hb
  subst ho
  have hg := run_getObj_iter (P := P) hb
  cases r with
  | none =>
    have : (execOp ρ { dst := dst, op := Op.next it false, type := type, pos := pos, after := after, guard := guard }).run P w = .ok (.value (.tuple #[.bool false])) w := by
      simp [execOp, Instr.next, hv, hg]
    rw [this]; exact ⟨Side.rfl' w, hx⟩
  | some mb =>
    obtain ⟨es, clock, hm, hbad, hover, hone⟩ := hx
    have hgm := run_getObj_map (P := P) hm
    have hbad' : (!seen.isEmpty && !es.isEmpty && es.all (fun x => decide (x.born ≥ last))) = false := hbad
    have hrun := next_run (P := P) (w := w) (s := s) (ty := type) hg hgm hbad'
    generalize hcand : cands since seen es = cand at hrun
    have hcs : 0 < cand.size := by
      rw [← hcand]; exact cands_pos _ _ _
    obtain ⟨i, w1, hch, hi, hw1, hs1⟩ : ∃ i w1, (choose (.mapNext cand.size)).run P w = .ok i w1 ∧ i < cand.size ∧ absM w1 = absM w ∧ Side w w1 := by
      by_cases hf : cand.size ≤ 1
      · exact ⟨0, w, by simp [Question.forced, hf], hcs, rfl, Side.rfl' w⟩
      · exact ⟨(w.tape w.drawn (.mapNext cand.size)) % cand.size, { w with drawn := w.drawn + 1 }, by simp [Question.forced, hf, Question.cut], Nat.mod_lt _ hcs, rfl, side_drew w _ (Nat.le_succ _)⟩
    have hci := Array.getElem?_eq_getElem hi
    have hex : (execOp ρ { dst := dst, op := Op.next it false, type := type, pos := pos, after := after, guard := guard }).run P w =
        ((Instr.next (.pointer (some ⟨b, 0, s⟩)) false type).run P w).andThen fun v w' => .ok (.value v) w' := by
      simp only [execOp, hv, Sem.run_bind, Sem.run_pure]
    rw [hex, hrun, hch]
    simp only [Result.andThen_ok, hci]
    cases hcv : cand[i] with
    | none =>
      simp only [Sem.run_pure, Result.andThen_ok]
      refine ⟨hs1, ?_⟩
      rw [hw1]
      apply hover
      have hm0 := Array.getElem_mem hi
      rw [hcv, ← hcand] at hm0
      exact cands_none hm0
    | some e =>
      have hmem : e ∈ es.toList ∧ seen.contains e.born = false := by
        have hm0 := Array.getElem_mem hi
        rw [hcv, ← hcand] at hm0
        exact cands_some hm0
      have hb1 : absM w1 b = some (.mapIter (some mb) since seen last) := by rw [hw1]; exact hb
      obtain ⟨s1, s2, s3⟩ := run_setObj_iter (P := P) (o := .mapIter (some mb) since (seen.push e.born) clock) hb1
      simp only [Sem.run_bind, s1, Result.andThen_ok, Sem.run_pure]
      refine ⟨hs1.trans s3, ?_⟩
      rw [s2, hw1]
      exact hone e hmem.1 hmem.2
theorem res_x {o : Oper} (h : res P o = some (ro, xl)) (hq : ro.quiet = false) (hx : xs P ro (xl.map ρ) m K) (hρ : ∀ f, ρ (.func f) = .func (.func f) #[] #[]) : XStep P o ρ m K := by
  have h0 := res_cases h
  clear h
  rcases h0 with h | h
  case inr => cases h; simp [xs] at hx
  obtain ⟨dst, op, type, pos, after, guard⟩ := o
  cases op <;> simp only [res0, reduceCtorEq] at h
  case call c => exact call_x rfl h hx hq hρ
  case makeInterface xt x =>
    split at h
    · cases h
    · obtain ⟨rfl, rfl⟩ := some_pair h; simp [RO.quiet] at hq
  case binOp op t x y u =>
    unfold resBin2 at h
    split at h
    · unfold resIf at h
      split at h
      case h_2 => cases h
      split at h <;> first | (cases h; done) | (obtain ⟨rfl, rfl⟩ := some_pair h; simp [RO.quiet] at hq)
    unfold resBin at h
    split at h <;> first
      | (cases h; done)
      | (obtain ⟨rfl, rfl⟩ := some_pair h; simp [RO.quiet] at hq; done)
      | (unfold resPtr at h
         split at h
         · obtain ⟨rfl, rfl⟩ := some_pair h; simp [RO.quiet] at hq
         · split at h
           · split at h
             · cases h
             · obtain ⟨rfl, rfl⟩ := some_pair h; simp [RO.quiet] at hq
           · cases h)
      | (split at h
         · cases h
         · obtain ⟨ks, hl, h⟩ := Option.map_eq_some_iff.1 h
           obtain ⟨rfl, rfl⟩ := Prod.mk.injEq .. ▸ h; simp [RO.quiet] at hq)
  case move x => obtain ⟨rfl, rfl⟩ := some_pair h; simp [RO.quiet] at hq
  case assign x => obtain ⟨rfl, rfl⟩ := some_pair h; simp [RO.quiet] at hq
  case pick c a b => obtain ⟨rfl, rfl⟩ := some_pair h; simp [RO.quiet] at hq
  case entry it => obtain ⟨rfl, rfl⟩ := some_pair h; simp [RO.quiet] at hq
  case nilCheck x => obtain ⟨rfl, rfl⟩ := some_pair h; simp [RO.quiet] at hq
  case fieldAddr s x f =>
    split at h
    · obtain ⟨fl, hf, h⟩ := Option.bind_eq_some_iff.1 h
      obtain ⟨i, hi, h⟩ := Option.bind_eq_some_iff.1 h
      split at h
      · cases h
      · obtain ⟨rfl, rfl⟩ := some_pair h; simp [RO.quiet] at hq
    · cases h
  case indexAddr t x i =>
    split at h
    · obtain ⟨j, hj, h⟩ := Option.map_eq_some_iff.1 h
      obtain ⟨rfl, rfl⟩ := Prod.mk.injEq .. ▸ h; simp [RO.quiet] at hq
    · obtain ⟨j, hj, h⟩ := Option.map_eq_some_iff.1 h
      obtain ⟨rfl, rfl⟩ := Prod.mk.injEq .. ▸ h; simp [RO.quiet] at hq
    · cases h
  case load t x =>
    split at h
    · obtain ⟨rfl, rfl⟩ := some_pair h; simp [RO.quiet] at hq
    · split at h
      · obtain ⟨i, hi, h⟩ := Option.map_eq_some_iff.1 h
        obtain ⟨rfl, rfl⟩ := Prod.mk.injEq .. ▸ h; simp [RO.quiet] at hq
      · cases h
  case store t a x =>
    obtain ⟨i, hi, h⟩ := Option.map_eq_some_iff.1 h
    obtain ⟨rfl, rfl⟩ := Prod.mk.injEq .. ▸ h
    intro w hw
    subst hw
    obtain ⟨a', ha, hsz, m', hst, hK⟩ := pP_inv hx
    obtain ⟨w', hr, e', s'⟩ := run_storeCells (P := P) _ _ _ _ _ hst
    have : (execOp ρ { dst := dst, op := Op.store t a x, type := type, pos := pos, after := after, guard := guard }).run P w = .ok .skip w' := by
      simp [execOp, Instr.storeAt, ha, Instr.sureAddr, storeVar, run_sizeOf' hi, hsz, hr]
    rw [this]
    exact ⟨s', by rw [e']; exact hK⟩
  case alloc t =>
    obtain ⟨z, hz, h⟩ := Option.map_eq_some_iff.1 h
    obtain ⟨rfl, rfl⟩ := Prod.mk.injEq .. ▸ h
    unfold zeroOf at hz
    obtain ⟨i, hi, hz⟩ := Option.bind_eq_some_iff.1 hz
    obtain ⟨z', hz', rfl⟩ := Option.map_eq_some_iff.1 hz
    intro w hw
    subst hw
    simp only [List.map_nil, xs] at hx
    have := hx w.heap.size (absM_none w)
    have hr : (execOp ρ { dst := dst, op := Op.alloc t, type := type, pos := pos, after := after, guard := guard }).run P w =
        .ok (.value (.pointer (some ⟨w.heap.size, 0, none⟩))) { w with heap := w.heap.push (.cells z'.cells t) } := by
      simp [execOp, Instr.alloc, run_zeroValue' hi hz', newVar, newRow]
    rw [hr]
    exact ⟨side_push _ _ _, by rw [absM_push]; simpa using this⟩
  case box t x =>
    obtain ⟨rfl, rfl⟩ := some_pair h
    intro w hw
    subst hw
    simp only [List.map_cons, List.map_nil, xs] at hx
    have := hx w.heap.size (absM_none w)
    have hr : (execOp ρ { dst := dst, op := Op.box t x, type := type, pos := pos, after := after, guard := guard }).run P w =
        .ok (.value (.pointer (some ⟨w.heap.size, 0, none⟩))) { w with heap := w.heap.push (.cells (ρ x).cells t) } := by
      simp [execOp, Instr.box, newVar, newRow]
    rw [hr]
    exact ⟨side_push _ _ _, by rw [absM_push]; exact this⟩
  case unOp op t x =>
    cases op <;> simp only [resUn, reduceCtorEq] at h
    · split at h
      · obtain ⟨rfl, rfl⟩ := some_pair h; simp [RO.quiet] at hq
      · cases h
    · split at h
      · obtain ⟨rfl, rfl⟩ := some_pair h; simp [RO.quiet] at hq
      · cases h
    · obtain ⟨rfl, rfl⟩ := some_pair h; simp [RO.quiet] at hq
  case convert s d x =>
    split at h
    · obtain ⟨rfl, rfl⟩ := some_pair h; simp [RO.quiet] at hq
    · obtain ⟨rfl, rfl⟩ := some_pair h; simp [RO.quiet] at hq
    · split at h
      · obtain ⟨rfl, rfl⟩ := some_pair h; simp [RO.quiet] at hq
      · cases h
    · rename_i e h1 h2
      split at h
      · rename_i he
        obtain ⟨rfl, rfl⟩ := some_pair h
        intro w hw
        subst hw
        obtain ⟨z, hv, hx⟩ := zP_inv hx
        have h8 : P.underlying e = some (.int .u8) := he
        let q := Question.appendCap z.size 0 e
        let nc := q.cut (w.tape w.drawn q)
        have hnc : z.size ≤ nc := by simp only [nc, q, Question.cut]; omega
        have hcap : (choose q).run P w = .ok nc { w with drawn := w.drawn + 1 } := by simp [q, nc, Question.forced]
        have hK := hx nc w.heap.size hnc (absM_none w)
        have hcells : (z.data.map fun b => Value.int .u8 b.toNat) ++ Array.replicate (nc - z.size) (Value.int .u8 0) = ((z.data.toList.map fun (x : UInt8) => Value.int .u8 x.toNat) ++ List.replicate (nc - z.size) (Value.int .u8 0)).toArray := by
          apply Array.ext'; simp
        have hsz : (((z.data.toList.map fun (x : UInt8) => Value.int .u8 x.toNat) ++ List.replicate (nc - z.size) (Value.int .u8 0)).toArray).size = nc := by
          have : z.data.toList.length = z.size := rfl
          simp only [List.size_toArray, List.length_append, List.length_map, List.length_replicate, this]; omega
        generalize hrow : ((z.data.toList.map fun (x : UInt8) => Value.int .u8 x.toNat) ++ List.replicate (nc - z.size) (Value.int .u8 0)).toArray = row at *
        let w1 : World := { w with drawn := w.drawn + 1, heap := w.heap.push (.cells row e) }
        have hsh : w1.shape? w.heap.size = some (e, nc) := by
          have hp : w1.heap[w.heap.size]? = some (.cells row e) := Array.getElem?_push_size
          unfold World.shape?
          rw [hp]
          show some (e, row.size) = _
          rw [hsz]
        have hrun : (execOp ρ { dst := dst, op := Op.convert s d x, type := type, pos := pos, after := after, guard := guard }).run P w = .ok (.value (.slice (some ⟨w.heap.size, 0, none⟩) z.size nc)) (w1.freeze ⟨w.heap.size, nc, none⟩ 1) := by
          simp only [execOp, hv, convert, Sem.run_bind, run_underlying' h1, run_underlying' h2, Result.andThen_ok, run_underlying' h8, Conv.stringToBytes]
          rw [show (choose (.appendCap z.size 0 e)).run P w = _ from hcap]
          simp only [Result.andThen_ok, newRow, Sem.run_bind, run_newObj, Sem.run_pure, hcells, markStringish, run_shape]
          rw [show ({ w with drawn := w.drawn + 1, heap := w.heap.push (.cells row e) } : World).shape? w.heap.size = some (e, nc) from hsh]
          simp only [run_freeze, Result.andThen_ok]
          rfl
        rw [hrun]
        have hfr : absM (w1.freeze ⟨w.heap.size, nc, none⟩ 1) = (absM w).set w.heap.size (.cells row e (nc, nc + 1)) := by
          funext b
          show (if (1 : Nat) = 0 then w1 else _).heap[b]? = _
          rw [if_neg (by decide)]
          simp only [absM, w1, Mem.set, Array.getElem?_modify]
          by_cases eb : b = w.heap.size
          · subst eb
            simp only [if_true, Array.getElem?_push_size, Option.map_some]
            rfl
          · have : w.heap.size ≠ b := fun h => eb h.symm
            simp only [eb, this, if_false, Array.getElem?_push]
        refine ⟨⟨rfl, rfl, by simp [World.freeze, w1], rfl⟩, ?_⟩
        rw [hfr]; exact hK
      · cases h
    · rename_i e0 e h1 h2
      split at h
      · rename_i he
        obtain ⟨rfl, rfl⟩ := some_pair h
        simp only [Bool.and_eq_true, beq_iff_eq] at he
        obtain ⟨hsd, he⟩ := he
        subst hsd
        have h8 := u8T_inv he
        intro w hw
        subst hw
        obtain ⟨a, n, c, hv, hx⟩ := sP_inv hx
        cases a with
        | none => exact hx.elim
        | some a =>
          obtain ⟨arr, t, fr, hm, hfr, hK⟩ := hx
          have hm' : w.heap[a.block]? = some (.cells arr t fr) := hm
          have hsh : w.shape? a.block = some (t, arr.size) := by unfold World.shape?; rw [hm']
          have hrun : (execOp ρ { dst := dst, op := Op.convert s s x, type := type, pos := pos, after := after, guard := guard }).run P w = .ok (.value (.slice (some a) n c)) (w.freeze ⟨a.block, arr.size, none⟩ 1) := by
            simp [execOp, hv, convert, run_underlying' h2, run_underlying' h8, markStringish, hsh]
          rw [hrun]
          have hfz : absM (w.freeze ⟨a.block, arr.size, none⟩ 1) = (absM w).set a.block (.cells arr t (arr.size, arr.size + 1)) := by
            funext b
            show (if (1 : Nat) = 0 then w else _).heap[b]? = _
            rw [if_neg (by decide)]
            simp only [absM, Mem.set, Array.getElem?_modify]
            by_cases eb : b = a.block
            · subst eb
              simp only [if_true, hm', Option.map_some]
              rcases hfr with rfl | rfl
              · simp
              · simp
            · have : a.block ≠ b := fun h => eb h.symm
              simp only [eb, this, if_false]
          refine ⟨⟨rfl, rfl, by simp [World.freeze], rfl⟩, ?_⟩
          rw [hfz]; exact hK
      · cases h
    · obtain ⟨i, hi, h⟩ := Option.bind_eq_some_iff.1 h
      split at h
      · cases h
      · obtain ⟨rfl, rfl⟩ := some_pair h; simp [RO.quiet] at hq
    · obtain ⟨i, hi, h⟩ := Option.bind_eq_some_iff.1 h
      split at h
      · cases h
      · obtain ⟨rfl, rfl⟩ := some_pair h; simp [RO.quiet] at hq
    · cases h
  case field t x f =>
    split at h
    · obtain ⟨fl, hf, h⟩ := Option.bind_eq_some_iff.1 h
      split at h
      · obtain ⟨rfl, rfl⟩ := some_pair h; simp [RO.quiet] at hq
      · split at h
        · obtain ⟨i, hi, h⟩ := Option.map_eq_some_iff.1 h
          obtain ⟨rfl, rfl⟩ := Prod.mk.injEq .. ▸ h; simp [RO.quiet] at hq
        · cases h
    · cases h
  case extract x i => obtain ⟨rfl, rfl⟩ := some_pair h; simp [RO.quiet] at hq
  case makeSlice t l c =>
    split at h
    · rename_i el hu
      obtain ⟨i, hi, h⟩ := Option.bind_eq_some_iff.1 h
      obtain ⟨z, hz, h⟩ := Option.bind_eq_some_iff.1 h
      split at h
      · rename_i hsz
        obtain ⟨rfl, rfl⟩ := some_pair h
        intro w hw
        subst hw
        obtain ⟨n, hl, hx⟩ := iP_inv hx
        obtain ⟨c', hc, h0, h1, h2, h3, hk⟩ := iP_inv hx
        have := hk w.heap.size (absM_none w)
        have wn : IntKind.i64.wrap n = n := wrap_i64 (by omega) (by omega)
        have wc : IntKind.i64.wrap c' = c' := wrap_i64 (by omega) (by omega)
        have hr : (execOp ρ { dst := dst, op := Op.makeSlice t l c, type := type, pos := pos, after := after, guard := guard }).run P w =
            .ok (.value (.slice (some ⟨w.heap.size, 0, none⟩) n.toNat c'.toNat)) { w with heap := w.heap.push (.cells (List.replicate c'.toNat z.cells.toList).flatten.toArray el) } := by
          have e1 : ¬ (c' < 0) := by omega
          have e2 : ¬ (281474976710656 < (i.bytes : Int) * c') := by omega
          have e3 : ¬ (n < 0) := by omega
          have e4 : ¬ (c' < n) := by omega
          have e5 : (zeroValue el).run P w = .ok z w := run_zeroValue' hi hz
          have e6 := madeCells_eq z.cells c'.toNat (by omega)
          by_cases hc0 : c' = 0
          · subst hc0
            simp [execOp, Instr.makeSlice, run_underlying' hu, hl, hc, asInt, asIntOf, run_typeInfo' hi, wn, wc, e3, e4, newRow, run_sizeOf' hi, Array.range]
            congr 2
            exact Array.eq_empty_of_size_eq_zero (by simp [wc])
          · have e7 : c'.toNat ≠ 0 := by omega
            have e8 : i.size ≠ 0 := by omega
            have e9 : c'.toNat * i.size ≠ 0 := Nat.mul_ne_zero e7 e8
            rw [hsz.1] at e6
            simp [execOp, Instr.makeSlice, run_underlying' hu, hl, hc, asInt, asIntOf, run_typeInfo' hi, wn, wc, e1, e2, e3, e4, newRow, run_sizeOf' hi, e5, if_neg e9, hsz.1]
            congr 2
        rw [hr]
        exact ⟨side_push _ _ _, by rw [absM_push]; exact this⟩
      · cases h
    · cases h
  case build t parts =>
    unfold resBuild at h
    obtain ⟨z, hz, h⟩ := Option.bind_eq_some_iff.1 h
    split at h
    · split at h
      · obtain ⟨ps, hps, h⟩ := Option.map_eq_some_iff.1 h
        obtain ⟨rfl, rfl⟩ := Prod.mk.injEq .. ▸ h; simp [RO.quiet] at hq
      · cases h
    · obtain ⟨ps, hps, h⟩ := Option.map_eq_some_iff.1 h
      obtain ⟨rfl, rfl⟩ := Prod.mk.injEq .. ▸ h; simp [RO.quiet] at hq
    · cases h
  case buildSlice t len parts =>
    unfold resBuildSlice at h
    split at h
    case h_2 => cases h
    rename_i e hu
    obtain ⟨i, hi, h⟩ := Option.bind_eq_some_iff.1 h
    obtain ⟨z, hz, h⟩ := Option.bind_eq_some_iff.1 h
    split at h
    case isFalse => cases h
    rename_i hsz
    obtain ⟨rfl, rfl⟩ := some_pair h
    intro w hw
    subst hw
    obtain ⟨l, hl, hk⟩ := hx
    have := hk w.heap.size (absM_none w)
    have hcells : (Array.range (len * i.size)).map (fun j => z.cells[j % z.cells.size]!) = (List.replicate len z.cells.toList).flatten.toArray := by
      rw [← hsz.1]; exact madeCells_eq z.cells len (by omega)
    have hfill := fill_lay (fun j => some (j * i.size, i.size)) (parts.toList.map fun (j, x) => (j, ρ x)) (parts.toList.map fun p => (p.1 * i.size, i.size)) (List.replicate len z.cells.toList).flatten.toArray l
      (by simp [List.map_map]) (by rw [List.map_map]; rw [List.map_map] at hl; exact hl)
    have hz' := run_zeroValue' (P := P) (w := w) hi hz
    have hr : (execOp ρ { dst := dst, op := Op.buildSlice t len parts, type := type, pos := pos, after := after, guard := guard }).run P w =
        .ok (.value (.slice (some ⟨w.heap.size, 0, none⟩) len len)) { w with heap := w.heap.push (.cells l.toArray e) } := by
      obtain ⟨parts⟩ := parts
      simp only at hfill
      have h16 : ¬ (16777216 < len * i.size) := by omega
      by_cases hz0 : len * i.size = 0
      · have hl0 : len = 0 := by
          rcases Nat.mul_eq_zero.1 hz0 with h | h
          · exact h
          · omega
        subst hl0
        have : (List.replicate 0 z.cells.toList).flatten.toArray = (#[] : Array Value) := by simp
        rw [this] at hfill
        have h0r : Array.range 0 = #[] := rfl
        simp only [execOp, Instr.buildSlice, Sem.run_bind, run_underlying' hu, Result.andThen_ok, run_sizeOf' hi, Nat.zero_mul, if_true, Sem.run_pure, h0r, List.map_toArray, List.map_nil, hfill, newRow]
        rfl
      · simp only [execOp, Instr.buildSlice, Sem.run_bind, run_underlying' hu, Result.andThen_ok, run_sizeOf' hi, if_neg hz0, hz', Sem.run_pure, hcells, List.map_toArray, hfill, newRow, run_newObj, Nat.reducePow, h16, if_false]
    rw [hr]
    exact ⟨side_push _ _ _, by rw [absM_push]; exact this⟩
  case slice t x lo hi mx =>
    cases mx with
    | none =>
      simp only [Option.isNone_none, if_true, resSlice] at h
      split at h
      · obtain ⟨i, hi, h⟩ := Option.map_eq_some_iff.1 h
        obtain ⟨rfl, rfl⟩ := Prod.mk.injEq .. ▸ h; simp [RO.quiet] at hq
      · obtain ⟨rfl, rfl⟩ := some_pair h; simp [RO.quiet] at hq
      · split at h
        · obtain ⟨i, hi, h⟩ := Option.map_eq_some_iff.1 h
          obtain ⟨rfl, rfl⟩ := Prod.mk.injEq .. ▸ h; simp [RO.quiet] at hq
        · cases h
      · obtain ⟨i, hi, h⟩ := Option.map_eq_some_iff.1 h
        obtain ⟨rfl, rfl⟩ := Prod.mk.injEq .. ▸ h; simp [RO.quiet] at hq
      · cases h
    | some mx =>
      simp only [Option.isNone_some, Bool.false_eq_true, if_false, resSlice3] at h
      split at h
      · obtain ⟨i, hi, h⟩ := Option.map_eq_some_iff.1 h
        obtain ⟨rfl, rfl⟩ := Prod.mk.injEq .. ▸ h; simp [RO.quiet] at hq
      · cases h
  case index t x i =>
    split at h
    · split at h
      · obtain ⟨j, hj, h⟩ := Option.map_eq_some_iff.1 h
        obtain ⟨rfl, rfl⟩ := Prod.mk.injEq .. ▸ h; simp [RO.quiet] at hq
      · split at h
        · obtain ⟨j, hj, h⟩ := Option.map_eq_some_iff.1 h
          obtain ⟨rfl, rfl⟩ := Prod.mk.injEq .. ▸ h; simp [RO.quiet] at hq
        · cases h
    · obtain ⟨rfl, rfl⟩ := some_pair h; simp [RO.quiet] at hq
    · cases h
  case makeFunc fn first captured => obtain ⟨rfl, rfl⟩ := some_pair h; simp [RO.quiet] at hq
  case makeMap t r =>
    split at h
    · rename_i hr
      obtain ⟨rfl, rfl⟩ := some_pair h
      have hr' : r = none := by simpa using hr
      subst hr'
      intro w hw
      subst hw
      simp only [List.map_nil, xs] at hx
      have := hx w.heap.size (absM_none w)
      have hr : (execOp ρ { dst := dst, op := Op.makeMap t none, type := type, pos := pos, after := after, guard := guard }).run P w =
          .ok (.value (.map (some w.heap.size))) { w with heap := w.heap.push (.map #[] 0) } := by
        simp [execOp, Instr.makeMap]
      rw [hr]
      exact ⟨side_any _ _, by rw [absM_push]; exact this⟩
    · cases h
  case lookup t x i ok =>
    unfold resLookup at h
    obtain ⟨z, hz, h⟩ := Option.bind_eq_some_iff.1 h
    obtain ⟨z', hz', h⟩ := Option.map_eq_some_iff.1 h
    obtain ⟨rfl, rfl⟩ := Prod.mk.injEq .. ▸ h; simp [RO.quiet] at hq
  case mapUpdate t a k x =>
    refine fun w hw => update_x h hx (fun r => ?_) w hw
    simp [execOp]
  case insert t a k x =>
    refine fun w hw => update_x h hx (fun r => ?_) w hw
    simp [execOp]
  case range t x =>
    split at h
    · rename_i k e hu
      obtain ⟨rfl, rfl⟩ := some_pair h
      intro w hw
      subst hw
      obtain ⟨r, hv, hx⟩ := mP_inv hx
      cases r with
      | none =>
        have := hx w.heap.size (absM_none w)
        have hr : (execOp ρ { dst := dst, op := Op.range t x, type := type, pos := pos, after := after, guard := guard }).run P w =
            .ok (.value (.pointer (some ⟨w.heap.size, 0, none⟩))) { w with heap := w.heap.push (.mapIter none 0 #[] 0) } := by
          simp [execOp, Instr.range, run_underlying' hu, hv]
        rw [hr]
        exact ⟨side_any _ _, by rw [absM_push]; exact this⟩
      | some b =>
        obtain ⟨es, clock, hm, hx⟩ := hx
        have := hx w.heap.size (absM_none w)
        have hr : (execOp ρ { dst := dst, op := Op.range t x, type := type, pos := pos, after := after, guard := guard }).run P w =
            .ok (.value (.pointer (some ⟨w.heap.size, 0, none⟩))) { w with heap := w.heap.push (.mapIter (some b) clock #[] clock) } := by
          simp [execOp, Instr.range, run_underlying' hu, hv, run_getObj_map hm]
        rw [hr]
        exact ⟨side_any _ _, by rw [absM_push]; exact this⟩
    · cases h
  case next it isS =>
    split at h
    · cases h
    · rename_i hs
      obtain ⟨rfl, rfl⟩ := some_pair h
      intro w hw
      subst hw
      obtain ⟨a, hv, hx⟩ := pP_inv hx
      have hs' : isS = false := by simpa using hs
      subst hs'
      exact next_x (dst := dst) (type := type) (pos := pos) (after := after) (guard := guard) hv hx
end sound
end Go.Fw
/-! Regions: what the operations of a statement come to, in whatever order. -/
namespace Go.Fw
inductive X where
  | slot (t : Nat) | res (i : Nat) | const (v : Value) | glob (g : Nat) | fn (f : Nat)
  deriving Inhabited
abbrev Env := List (Nat × Value)
def Env.get : Env → Nat → Value
  | [], _ => undef
  | (j, v) :: r, i => if i = j then v else Env.get r i
def Env.has : Env → Nat → Bool
  | [], _ => false
  | (j, _) :: r, i => i == j || Env.has r i
def X.ev (L : Nat → Value) (σ : Env) : X → Value
  | .slot t => L t
  | .res i => σ.get i
  | .const v => v
  | .glob g => .pointer (some ⟨g, 0, none⟩)
  | .fn f => .func (.func f) #[] #[]
def asB : Value → Option Bool
  | .bool b => some b
  | _ => none
abbrev Gd := Option (X × Bool)
inductive ET where
  | out (outs : List (Nat × X))
  | fail
  | tt
  | q (i : Nat) (ro : RO) (args : List X) (g : Gd) (k : ET)
  | x (i : Nat) (ro : RO) (args : List X) (g : Gd) (rc : List (Nat × RO × List X × Gd)) (k : ET)
  | both (a b : ET)
  deriving Inhabited
def bindO (o : Option Value) (K : Value → Prop) : Prop := ∃ v, o = some v ∧ K v
def gP (L : Nat → Value) (σ : Env) (g : Gd) (yes no : Prop) : Prop :=
  match g with
  | none => yes
  | some (x, want) => (asB (x.ev L σ) = some want → yes) ∧ (asB (x.ev L σ) ≠ some want → no)
def rcP (L : Nat → Value) (σ : Env) (m : Mem) : List (Nat × RO × List X × Gd) → Prop
  | [] => True
  | (i, ro, args, g) :: r => gP L σ g (rd ro (args.map (X.ev L σ)) m = some (σ.get i)) True ∧ rcP L σ m r
def etP (P : Program) (L : Nat → Value) : ET → Env → Mem → (Env → Mem → Prop) → Prop
  | .out outs, σ, m, K => K (outs.map fun p => (p.1, p.2.ev L σ)) m
  | .fail, _, _, _ => False
  | .tt, _, _, _ => True
  | .q i ro args g k, σ, m, K => gP L σ g (bindO (rd ro (args.map (X.ev L σ)) m) fun v => etP P L k ((i, v) :: σ) m K) (etP P L k ((i, undef) :: σ) m K)
  | .x i ro args g rc k, σ, m, K =>
    gP L σ g (xs P ro (args.map (X.ev L σ)) m fun v m' => rcP L ((i, v) :: σ) m' rc ∧ etP P L k ((i, v) :: σ) m' K) (etP P L k ((i, undef) :: σ) m K)
  | .both a b, σ, m, K => etP P L a σ m K ∧ etP P L b σ m K
/-! ### from operations to trees -/
def dstAt (ops : Array Oper) (k : Nat) : Option Nat := (ops[k]?).bind (·.dst)
def lastW (ops : Array Oper) (t : Nat) : Nat → Option Nat
  | 0 => none
  | k + 1 => if dstAt ops k = some t then some k else lastW ops t k
/-- an unguarded move's operand -/
def mvOf (ops : Array Oper) (j : Nat) : Option Operand :=
  match ops[j]? with
  | some o => if o.guard.isNone then (match o.op with | .move x | .assign x => some x | _ => none) else none
  | none => none
def nx (ops : Array Oper) : Nat → Nat → X
  | 0, j => .res j
  | f + 1, j =>
    match mvOf ops j with
    | some (.tmp t) => (match lastW ops t j with | none => .slot t | some k => nx ops f k)
    | some (.const v) => .const v
    | some (.global g) => .glob g
    | some (.func g) => .fn g
    | none => .res j
def src (ops : Array Oper) (i : Nat) : Operand → X
  | .tmp t => (match lastW ops t i with | none => .slot t | some k => nx ops ops.size k)
  | .const v => .const v
  | .global g => .glob g
  | .func g => .fn g
structure Nd where
  ro : RO
  args : List X
  g : Gd
  mv : Bool
  deriving Inhabited
def gdOf (ops : Array Oper) (i : Nat) (o : Oper) : Option Gd :=
  match o.guard with
  | none => some none
  | some (j, want) => (dstAt ops j).map fun d => some (src ops i (.tmp d), want)
def okX (l : List Nat) : Operand → Bool
  | .tmp t => l.contains t
  | _ => true
def ndOf (P : Program) (ops : Array Oper) (i : Nat) : Option Nd :=
  (ops[i]?).bind fun o => (res P o).bind fun r => if r.2.all (okX (o.looksAt ops)) then (gdOf ops i o).map fun g => ⟨r.1, r.2.map (src ops i), g, (mvOf ops i).isSome⟩ else none
/-- every operation's transitive predecessors, as bits -/
def tpStep (acc : List Nat) (o : Oper) : Nat := o.after.toList.foldl (fun s e => if Region.binds .any e then s ||| 2 ^ e.on ||| acc.getD e.on 0 else s) 0
def tps : List Oper → List Nat → List Nat
  | [], acc => acc
  | o :: r, acc => tps r (acc ++ [tpStep acc o])
def firstQ (ns tp : List Nat) (qt : List Bool) (D : Nat) : Option Nat := ns.find? fun i => !D.testBit i && qt.getD i false && ((tp.getD i 0) &&& D == tp.getD i 0)
def readyX (ns tp : List Nat) (qt : List Bool) (D : Nat) : List Nat := ns.filter fun i => !D.testBit i && !qt.getD i true && ((tp.getD i 0) &&& D == tp.getD i 0)
def allOf : List ET → ET
  | [] => .tt
  | [a] => a
  | a :: r => .both a (allOf r)
def rcOf (ns : List Nat) (nd : List Nd) (tp : List Nat) (D i : Nat) : List (Nat × RO × List X × Gd) :=
  ns.filterMap fun j => (nd[j]?).bind fun d => if D.testBit j && d.ro.quiet && d.ro.reads && !(tp.getD i 0).testBit j then some (j, d.ro, d.args, d.g) else none
def mkT (ns : List Nat) (nd : List Nd) (tp : List Nat) (qt : List Bool) (outs : List (Nat × X)) : Nat → Nat → ET
  | 0, _ => .fail
  | f + 1, D =>
    match firstQ ns tp qt D with
    | some i =>
      match nd[i]? with
      | some d => if d.mv then mkT ns nd tp qt outs f (D ||| 2 ^ i) else .q i d.ro d.args d.g (mkT ns nd tp qt outs f (D ||| 2 ^ i))
      | none => .fail
    | none =>
      match readyX ns tp qt D with
      | [] => if ns.all (fun i => D.testBit i) then .out outs else .fail
      | r => allOf (r.map fun i => match nd[i]? with | some d => .x i d.ro d.args d.g (rcOf ns nd tp D i) (mkT ns nd tp qt outs f (D ||| 2 ^ i)) | none => .fail)
/-- the order of the text alone -/
def mkS (outs : List (Nat × X)) : List Nd → Nat → ET
  | [], _ => .out outs
  | d :: r, i => if d.mv then mkS outs r (i + 1) else if d.ro.quiet then .q i d.ro d.args d.g (mkS outs r (i + 1)) else .x i d.ro d.args d.g [] (mkS outs r (i + 1))
end Go.Fw
namespace Go.Fw
section sim
variable {P : Program} {ops : Array Oper} {base : Nat → Value}
def opv (ops : Array Oper) (base : Nat → Value) (vals : Nat → Value) (i : Nat) : Operand → Value
  | .tmp t => (match lastW ops t i with | none => base t | some j => vals j)
  | .const v => v
  | .global g => .pointer (some ⟨g, 0, none⟩)
  | .func f => .func (.func f) #[] #[]
def wantV (ops : Array Oper) (base : Nat → Value) (vals : Nat → Value) (i : Nat) (o : Oper) : Bool :=
  match o.guard with
  | none => true
  | some (j, want) => match dstAt ops j with
    | some d => asB (opv ops base vals i (.tmp d)) == some want
    | none => false
theorem lastW_lt {t : Nat} : ∀ {i j : Nat}, lastW ops t i = some j → j < i ∧ dstAt ops j = some t
  | 0, _, h => by simp [lastW] at h
  | k + 1, j, h => by
    simp only [lastW] at h
    split at h
    · rename_i e; simp only [Option.some.injEq] at h; subst h; exact ⟨Nat.lt_succ_self _, e⟩
    · have := lastW_lt h; exact ⟨by omega, this.2⟩
/-- What is checked of a region, as facts. -/
structure RegOK (P : Program) (ops : Array Oper) (nd : List Nd) (tp : List Nat) (qt : List Bool) (N : Nat) : Prop where
  ap : ∀ i j oi oj, i < j → ops[i]? = some oi → ops[j]? = some oj → (tp.getD j 0).testBit i = true ∨ oi.apart ops oj = true
  hnd : ∀ i, i < ops.size → ∃ d, nd[i]? = some d ∧ ndOf P ops i = some d
  hqt : ∀ i d, i < ops.size → nd[i]? = some d → qt[i]? = some d.ro.quiet
  hdst : ∀ i d, dstAt ops i = some d → d < N
/-- .. and of one that draws its order. -/
structure RegDr (ops : Array Oper) (tp : List Nat) : Prop where
  back : ∀ i o, ops[i]? = some o → ∀ e ∈ o.after, Region.binds .any e = true → e.on < i
  htp : ∀ i o, ops[i]? = some o → ∀ k, (tp.getD i 0).testBit k = true → ∃ e ∈ o.after, Region.binds .any e = true ∧ (k = e.on ∨ (tp.getD e.on 0).testBit k = true)
variable {nd : List Nd} {tp : List Nat} {qt : List Bool} {N : Nat}
theorem looks_ap {i j : Nat} {oi : Oper} {t : Nat} (ok : RegOK P ops nd tp qt N) (hlt : j < i) (hi : ops[i]? = some oi) (hj : dstAt ops j = some t) (ht : t ∈ oi.looksAt ops) : (tp.getD i 0).testBit j = true := by
  unfold dstAt at hj
  obtain ⟨oj, hoj, hd⟩ := Option.bind_eq_some_iff.1 hj
  rcases ok.ap j i oj oi hlt hoj hi with h | h
  · exact h
  · exact absurd ht ((Oper.apart_spec h).1 t hd)
theorem looks_ap' {i k : Nat} {oi : Oper} {t : Nat} (ok : RegOK P ops nd tp qt N) (hlt : i < k) (hi : ops[i]? = some oi) (hk : dstAt ops k = some t) (ht : t ∈ oi.looksAt ops) : (tp.getD k 0).testBit i = true := by
  unfold dstAt at hk
  obtain ⟨ok', hok, hd⟩ := Option.bind_eq_some_iff.1 hk
  rcases ok.ap i k oi ok' hlt hi hok with h | h
  · exact h
  · exact absurd ht ((Oper.apart_spec h).2.2 t hd)
theorem dst_ap {i k : Nat} {t : Nat} (ok : RegOK P ops nd tp qt N) (hlt : i < k) (hi : dstAt ops i = some t) (hk : dstAt ops k = some t) : (tp.getD k 0).testBit i = true := by
  unfold dstAt at hi hk
  obtain ⟨oi, hoi, hdi⟩ := Option.bind_eq_some_iff.1 hi
  obtain ⟨ok', hok, hd⟩ := Option.bind_eq_some_iff.1 hk
  rcases ok.ap i k oi ok' hlt hoi hok with h | h
  · exact h
  · exact absurd hd ((Oper.apart_spec h).2.1 t hdi)
/-- the canonical run's state -/
structure Can (ops : Array Oper) (base : Nat → Value) (tp : List Nat) (D : Nat) (σ : Env) (vals : Nat → Value) : Prop where
  closed : ∀ i, D.testBit i = true → ∀ k, (tp.getD i 0).testBit k = true → D.testBit k = true
  sg : ∀ i, D.testBit i = true → mvOf ops i = none → σ.get i = vals i
  mv : ∀ i x, D.testBit i = true → mvOf ops i = some x → vals i = opv ops base vals i x
theorem mvOf_looks {j : Nat} {x : Operand} (h : mvOf ops j = some x) : ∃ o, ops[j]? = some o ∧ ∀ t, x = .tmp t → t ∈ o.looksAt ops := by
  unfold mvOf at h
  split at h
  · rename_i o ho
    refine ⟨o, ho, fun t hx => ?_⟩
    split at h
    · split at h
      · rename_i y hop; simp only [Option.some.injEq] at h; subst h; subst hx; simp [Oper.looksAt, hop, Op.operands]
      · rename_i y hop; simp only [Option.some.injEq] at h; subst h; subst hx; simp [Oper.looksAt, hop, Op.operands]
      · cases h
    · cases h
  · cases h
theorem nx_ev (ok : RegOK P ops nd tp qt N) {D : Nat} {σ : Env} {vals : Nat → Value} (c : Can ops base tp D σ vals) :
    ∀ f j, j < f → D.testBit j = true → (nx ops f j).ev base σ = vals j
  | 0, j, h, _ => absurd h (by omega)
  | f + 1, j, h, hj => by
    simp only [nx]
    cases hm : mvOf ops j with
    | none => simpa [X.ev] using c.sg j hj hm
    | some x =>
      have hv := c.mv j x hj hm
      obtain ⟨o, ho, hl⟩ := mvOf_looks hm
      cases x with
      | tmp t =>
        simp only
        cases hw : lastW ops t j with
        | none => simp only [X.ev]; rw [hv]; simp [opv, hw]
        | some k =>
          obtain ⟨hk, hd⟩ := lastW_lt hw
          have hb := looks_ap ok hk ho hd (hl t rfl)
          rw [hv]
          simp only [opv, hw]
          exact nx_ev ok c f k (by omega) (c.closed j hj k hb)
      | const v => rw [hv]; rfl
      | global g => rw [hv]; rfl
      | func g => rw [hv]; rfl
theorem src_ev (ok : RegOK P ops nd tp qt N) {D : Nat} {σ : Env} {vals : Nat → Value} (c : Can ops base tp D σ vals) {i : Nat} (hi : i ≤ ops.size)
    {x : Operand} (hx : ∀ t j, x = .tmp t → lastW ops t i = some j → D.testBit j = true) : (src ops i x).ev base σ = opv ops base vals i x := by
  cases x with
  | tmp t =>
    simp only [src, opv]
    cases hw : lastW ops t i with
    | none => rfl
    | some j => exact nx_ev ok c _ j (by have := (lastW_lt hw).1; omega) (hx t j rfl hw)
  | const v => rfl
  | global g => rfl
  | func g => rfl
theorem opv_congr {vals vals' : Nat → Value} {i : Nat} {x : Operand} (h : ∀ t j, x = .tmp t → lastW ops t i = some j → vals j = vals' j) : opv ops base vals i x = opv ops base vals' i x := by
  cases x with
  | tmp t =>
    simp only [opv]
    cases hw : lastW ops t i with
    | none => rfl
    | some j => exact h t j rfl hw
  | _ => rfl
/-- operand's last writers are done, when the predecessors are -/
theorem pred_done (ok : RegOK P ops nd tp qt N) {D : Nat} {i : Nat} {o : Oper} (ho : ops[i]? = some o) (hp : ∀ k, (tp.getD i 0).testBit k = true → D.testBit k = true)
    {t j : Nat} (ht : t ∈ o.looksAt ops) (hw : lastW ops t i = some j) : D.testBit j = true := by
  obtain ⟨hlt, hd⟩ := lastW_lt hw
  exact hp _ (looks_ap ok hlt ho hd ht)
def upd (vals : Nat → Value) (i : Nat) (v : Value) : Nat → Value := fun k => if k = i then v else vals k
theorem upd_self (vals : Nat → Value) (i : Nat) (v : Value) : upd vals i v i = v := by simp [upd]
theorem upd_ne {vals : Nat → Value} {i k : Nat} (v : Value) (h : k ≠ i) : upd vals i v k = vals k := by simp [upd, h]
/-- what a quiet operation that was taken early has yielded, it yields now -/
def QF (P : Program) (ops : Array Oper) (base : Nat → Value) (vals : Nat → Value) (m : Mem) (i : Nat) : Prop :=
  ∀ o ro xl, ops[i]? = some o → res P o = some (ro, xl) → ro.quiet = true ∧
    (wantV ops base vals i o = true → rd ro (xl.map (opv ops base vals i)) m = some (vals i)) ∧ (wantV ops base vals i o = false → vals i = undef)
theorem nd_parts {i : Nat} {d : Nd} (h : ndOf P ops i = some d) : ∃ o ro xl g, ops[i]? = some o ∧ res P o = some (ro, xl) ∧ xl.all (okX (o.looksAt ops)) = true ∧ gdOf ops i o = some g ∧
    d = ⟨ro, xl.map (src ops i), g, (mvOf ops i).isSome⟩ := by
  unfold ndOf at h
  obtain ⟨o, ho, h⟩ := Option.bind_eq_some_iff.1 h
  obtain ⟨⟨ro, xl⟩, hr, h⟩ := Option.bind_eq_some_iff.1 h
  split at h
  · rename_i hk
    obtain ⟨g, hg, h⟩ := Option.map_eq_some_iff.1 h
    exact ⟨o, ro, xl, g, ho, hr, hk, hg, h.symm⟩
  · cases h
theorem ok_mem {l : List Nat} {xl : List Operand} (h : xl.all (okX l) = true) {t : Nat} (ht : .tmp t ∈ xl) : t ∈ l := by
  have := List.all_eq_true.1 h _ ht
  simpa [okX] using this
theorem guard_looks {o : Oper} {j : Nat} {want : Bool} {d : Nat} (hg : o.guard = some (j, want)) (hd : dstAt ops j = some d) : d ∈ o.looksAt ops := by
  unfold Oper.looksAt
  refine List.mem_append_right _ ?_
  unfold dstAt at hd
  simp [hg, hd]
/-- the tree's guard is the operation's -/
theorem gd_want (ok : RegOK P ops nd tp qt N) {D : Nat} {σ : Env} {vals : Nat → Value} (c : Can ops base tp D σ vals) {i : Nat} {o : Oper} {g : Gd} (hi : i < ops.size) (ho : ops[i]? = some o)
    (hp : ∀ k, (tp.getD i 0).testBit k = true → D.testBit k = true) (hg : gdOf ops i o = some g) {yes no : Prop} (h : gP base σ g yes no) :
    (wantV ops base vals i o = true → yes) ∧ (wantV ops base vals i o = false → no) := by
  unfold gdOf at hg
  unfold wantV
  cases hgu : o.guard with
  | none => simp only [hgu, Option.some.injEq] at hg; subst hg; exact ⟨fun _ => h, fun h0 => by cases h0⟩
  | some jw =>
    obtain ⟨j, want⟩ := jw
    simp only [hgu] at hg
    obtain ⟨d, hd, rfl⟩ := Option.map_eq_some_iff.1 hg
    simp only [hd]
    have e := src_ev (base := base) ok c (Nat.le_of_lt hi) (x := .tmp d) (fun t k ht hw => by
      cases ht; exact pred_done ok ho hp (guard_looks hgu hd) hw)
    simp only [gP] at h
    rw [e] at h
    constructor
    · intro hb; exact h.1 (by simpa using hb)
    · intro hb; exact h.2 (by simpa using hb)
theorem args_ev (ok : RegOK P ops nd tp qt N) {D : Nat} {σ : Env} {vals : Nat → Value} (c : Can ops base tp D σ vals) {i : Nat} {o : Oper} {xl : List Operand} (hi : i < ops.size) (ho : ops[i]? = some o)
    (hp : ∀ k, (tp.getD i 0).testBit k = true → D.testBit k = true) (hk : xl.all (okX (o.looksAt ops)) = true) :
    (xl.map (src ops i)).map (X.ev base σ) = xl.map (opv ops base vals i) := by
  rw [List.map_map]
  refine List.map_congr_left fun x hx => ?_
  exact src_ev (base := base) ok c (Nat.le_of_lt hi) (fun t j ht hw => by subst ht; exact pred_done ok ho hp (ok_mem hk hx) hw)
theorem testBit_or_pow (D i k : Nat) : (D ||| 2 ^ i).testBit k = (D.testBit k || decide (k = i)) := by
  rw [Nat.testBit_or, Nat.testBit_two_pow]
  congr 1
  by_cases h : i = k <;> simp [h, eq_comm]
theorem and_sub {a D : Nat} (h : (a &&& D == a) = true) : ∀ k, a.testBit k = true → D.testBit k = true := by
  intro k hk
  have h' : a &&& D = a := by simpa using h
  rw [← h', Nat.testBit_and] at hk
  simpa using (Bool.and_eq_true _ _ ▸ hk).2
/-- one more is done -/
theorem Can.add (ok : RegOK P ops nd tp qt N) {D : Nat} {σ : Env} {vals : Nat → Value} (c : Can ops base tp D σ vals) {i : Nat} (hi : i < ops.size) (hD : D.testBit i = false)
    (hp : ∀ k, (tp.getD i 0).testBit k = true → D.testBit k = true) (v : Value) (σ' : Env)
    (hm : mvOf ops i = none → σ' = (i, v) :: σ) (hm' : ∀ x, mvOf ops i = some x → σ' = σ ∧ v = opv ops base vals i x) :
    Can ops base tp (D ||| 2 ^ i) σ' (upd vals i v) := by
  have hne : ∀ k, D.testBit k = true → k ≠ i := fun k hk e => by subst e; rw [hD] at hk; cases hk
  constructor
  · intro k hk j hj
    rw [testBit_or_pow] at hk ⊢
    by_cases e : k = i
    · subst e; simp [hp j hj]
    · simp only [e, decide_false, Bool.or_false] at hk
      simp [c.closed k hk j hj]
  · intro k hk hmk
    rw [testBit_or_pow] at hk
    by_cases e : k = i
    · subst e; rw [hm hmk, upd_self]; simp [Env.get]
    · simp only [e, decide_false, Bool.or_false] at hk
      rw [upd_ne v e]
      cases hmi : mvOf ops i with
      | none => rw [hm hmi]; simp only [Env.get, if_neg e]; exact c.sg k hk hmk
      | some x => rw [(hm' x hmi).1]; exact c.sg k hk hmk
  · intro k x hk hmk
    rw [testBit_or_pow] at hk
    obtain ⟨o, ho, hl⟩ := mvOf_looks hmk
    by_cases e : k = i
    · subst e
      rw [upd_self, (hm' x hmk).2]
      exact opv_congr fun t j ht hw => by
        have := hne j (pred_done ok ho hp (hl t ht) hw)
        rw [upd_ne _ this]
    · simp only [e, decide_false, Bool.or_false] at hk
      rw [upd_ne v e, c.mv k x hk hmk]
      exact opv_congr fun t j ht hw => by
        have := hne j (pred_done ok ho (c.closed k hk) (hl t ht) hw)
        rw [upd_ne _ this]
/-- what was known of the done ones stays known -/
theorem QF.keep (ok : RegOK P ops nd tp qt N) {D : Nat} {vals vals' : Nat → Value} {m : Mem} {i : Nat} {d : Nd} (hi : ndOf P ops i = some d) (hiD : D.testBit i = true)
    (hp : ∀ k, (tp.getD i 0).testBit k = true → D.testBit k = true)
    (hv : ∀ k, D.testBit k = true → vals' k = vals k) (h : QF P ops base vals m i) : QF P ops base vals' m i := by
  obtain ⟨o, ro, xl, g, ho, hr, hk, hg, rfl⟩ := nd_parts hi
  intro o' ro' xl' ho' hr'
  rw [ho] at ho'; cases ho'
  rw [hr] at hr'; cases hr'
  have ho'' := h o ro xl ho hr
  have hopv : ∀ t, t ∈ o.looksAt ops → opv ops base vals' i (.tmp t) = opv ops base vals i (.tmp t) := fun t ht =>
    opv_congr fun t' j e hw => by cases e; exact hv j (pred_done ok ho hp ht hw)
  have hw : wantV ops base vals' i o = wantV ops base vals i o := by
    unfold wantV
    cases hgu : o.guard with
    | none => rfl
    | some jw =>
      obtain ⟨j, want⟩ := jw
      simp only
      cases hd : dstAt ops j with
      | none => rfl
      | some d => simp only; rw [hopv d (guard_looks hgu hd)]
  have hx : xl.map (opv ops base vals' i) = xl.map (opv ops base vals i) := List.map_congr_left fun x hx => by
    cases x with
    | tmp t => exact hopv t (ok_mem hk hx)
    | _ => rfl
  refine ⟨ho''.1, fun h1 => ?_, fun h1 => ?_⟩
  · rw [hx, hv i hiD]; exact ho''.2.1 (hw ▸ h1)
  · rw [hv i hiD]; exact ho''.2.2 (hw ▸ h1)
end sim
end Go.Fw
namespace Go.Fw
section sim
variable {P : Program} {ops : Array Oper} {base : Nat → Value} {nd : List Nd} {tp : List Nat} {qt : List Bool} {N : Nat} {outs : List (Nat × X)} {K : Env → Mem → Prop}
theorem firstQ_some {ns : List Nat} {D i : Nat} (h : firstQ ns tp qt D = some i) : i ∈ ns ∧ D.testBit i = false ∧ qt.getD i false = true ∧ ∀ k, (tp.getD i 0).testBit k = true → D.testBit k = true := by
  unfold firstQ at h
  have h1 := List.find?_some h
  simp only [Bool.and_eq_true, Bool.not_eq_true'] at h1
  exact ⟨List.mem_of_find?_eq_some h, h1.1.1, h1.1.2, and_sub h1.2⟩
theorem firstQ_none {ns : List Nat} {D : Nat} (h : firstQ ns tp qt D = none) {i : Nat} (hi : i ∈ ns) (hq : qt.getD i false = true)
    (hp : ∀ k, (tp.getD i 0).testBit k = true → D.testBit k = true) : D.testBit i = true := by
  unfold firstQ at h
  have h1 := List.find?_eq_none.1 h i hi
  have hand : ((tp.getD i 0) &&& D == tp.getD i 0) = true := by
    simp only [beq_iff_eq]
    apply Nat.eq_of_testBit_eq
    intro k
    rw [Nat.testBit_and]
    cases hb : (tp.getD i 0).testBit k
    · rfl
    · simp [hp k hb]
  cases hD : D.testBit i
  · rw [hD, hand, hq] at h1
    exact absurd rfl h1
  · rfl
theorem mv_guard {i : Nat} {x : Operand} {o : Oper} (hm : mvOf ops i = some x) (ho : ops[i]? = some o) : o.guard = none ∧ (o.op = .move x ∨ o.op = .assign x) := by
  unfold mvOf at hm
  rw [ho] at hm
  simp only at hm
  split at hm
  · rename_i hg
    refine ⟨by simpa using hg, ?_⟩
    split at hm
    · rename_i y hop; simp only [Option.some.injEq] at hm; subst hm; exact .inl hop
    · rename_i y hop; simp only [Option.some.injEq] at hm; subst hm; exact .inr hop
    · cases hm
  · cases hm
theorem QF.of_mv {vals : Nat → Value} {m : Mem} {i : Nat} {x : Operand} (hm : mvOf ops i = some x) (hv : vals i = opv ops base vals i x) : QF P ops base vals m i := by
  intro o ro xl ho hr
  obtain ⟨hg, hop⟩ := mv_guard hm ho
  have hr' : ro = .mv ∧ xl = [x] := by
    obtain ⟨dst, op, type, pos, after, guard⟩ := o
    rcases hop with rfl | rfl <;> (simp only [res] at hr; obtain ⟨rfl, rfl⟩ := some_pair hr; exact ⟨rfl, rfl⟩)
  obtain ⟨rfl, rfl⟩ := hr'
  refine ⟨rfl, fun _ => ?_, fun h => ?_⟩
  · simp only [List.map_cons, List.map_nil, rd, rdp, RO.reads]
    rw [← hv]
  · simp [wantV, hg] at h
theorem opv_upd (ok : RegOK P ops nd tp qt N) {D : Nat} {vals : Nat → Value} {i : Nat} {o : Oper} (ho : ops[i]? = some o) (hD : D.testBit i = false)
    (hp : ∀ k, (tp.getD i 0).testBit k = true → D.testBit k = true) (v : Value) {x : Operand} (hx : ∀ t, x = .tmp t → t ∈ o.looksAt ops) :
    opv ops base (upd vals i v) i x = opv ops base vals i x :=
  opv_congr fun t j e hw => by
    have := pred_done ok ho hp (hx t e) hw
    exact upd_ne _ (fun e => by subst e; rw [hD] at this; cases this)
theorem want_upd (ok : RegOK P ops nd tp qt N) {D : Nat} {vals : Nat → Value} {i : Nat} {o : Oper} (ho : ops[i]? = some o) (hD : D.testBit i = false)
    (hp : ∀ k, (tp.getD i 0).testBit k = true → D.testBit k = true) (v : Value) : wantV ops base (upd vals i v) i o = wantV ops base vals i o := by
  unfold wantV
  cases hgu : o.guard with
  | none => rfl
  | some jw =>
    obtain ⟨j, want⟩ := jw
    simp only
    cases hd : dstAt ops j with
    | none => rfl
    | some d =>
      simp only
      rw [opv_upd (base := base) ok ho hD hp v (x := .tmp d) (fun t e => by cases e; exact guard_looks hgu hd)]
/-- all that can be taken without doing anything is taken -/
theorem advance (ok : RegOK P ops nd tp qt N) : ∀ (f D : Nat) (σ : Env) (vals : Nat → Value) (m : Mem), Can ops base tp D σ vals →
    etP P base (mkT (List.range ops.size) nd tp qt outs f D) σ m K →
    ∃ f' D' σ' vals', Can ops base tp D' σ' vals' ∧ firstQ (List.range ops.size) tp qt D' = none ∧ etP P base (mkT (List.range ops.size) nd tp qt outs (f' + 1) D') σ' m K ∧
      (∀ i, D.testBit i = true → D'.testBit i = true ∧ vals' i = vals i) ∧ (∀ i, D'.testBit i = true → D.testBit i = true ∨ QF P ops base vals' m i)
  | 0, D, σ, vals, m, _, h => by simp [mkT, etP] at h
  | f + 1, D, σ, vals, m, c, h => by
    cases hq : firstQ (List.range ops.size) tp qt D with
    | none => exact ⟨f, D, σ, vals, c, hq, h, fun i hi => ⟨hi, rfl⟩, fun i hi => .inl hi⟩
    | some i =>
      obtain ⟨hin, hD, hqi, hp⟩ := firstQ_some hq
      have hi : i < ops.size := by simpa using hin
      obtain ⟨d, hd, hnd⟩ := ok.hnd i hi
      obtain ⟨o, ro, xl, g, ho, hr, hk, hg, hde⟩ := nd_parts hnd
      have hquiet : ro.quiet = true := by
        have := ok.hqt i d hi hd
        rw [List.getD_eq_getElem?_getD, this] at hqi
        rw [hde] at hqi
        simpa using hqi
      simp only [mkT, hq, hd] at h
      -- the step, given the value
      have step : ∀ (v : Value) (σ1 : Env), (mvOf ops i = none → σ1 = (i, v) :: σ) → (∀ x, mvOf ops i = some x → σ1 = σ ∧ v = opv ops base vals i x) →
          QF P ops base (upd vals i v) m i → etP P base (mkT (List.range ops.size) nd tp qt outs f (D ||| 2 ^ i)) σ1 m K →
          ∃ f' D' σ' vals', Can ops base tp D' σ' vals' ∧ firstQ (List.range ops.size) tp qt D' = none ∧ etP P base (mkT (List.range ops.size) nd tp qt outs (f' + 1) D') σ' m K ∧
            (∀ i, D.testBit i = true → D'.testBit i = true ∧ vals' i = vals i) ∧ (∀ i, D'.testBit i = true → D.testBit i = true ∨ QF P ops base vals' m i) := by
        intro v σ1 h1 h2 hqf het
        have c1 := c.add ok hi hD hp v σ1 h1 h2
        obtain ⟨f', D', σ', vals', c', hq', het', hk', hn'⟩ := advance ok f (D ||| 2 ^ i) σ1 (upd vals i v) m c1 het
        have hiD' : D'.testBit i = true := (hk' i (by rw [testBit_or_pow]; simp)).1
        refine ⟨f', D', σ', vals', c', hq', het', fun k hkD => ?_, fun k hkD => ?_⟩
        · have := hk' k (by rw [testBit_or_pow]; simp [hkD])
          refine ⟨this.1, this.2.trans (upd_ne v (fun e => by subst e; rw [hD] at hkD; cases hkD))⟩
        · rcases hn' k hkD with h' | h'
          · rw [testBit_or_pow] at h'
            by_cases e : k = i
            · subst e
              refine .inr ?_
              exact QF.keep (D := D ||| 2 ^ k) ok hnd (by rw [testBit_or_pow]; simp) (fun j hj => by rw [testBit_or_pow]; simp [hp j hj]) (fun j hj => (hk' j hj).2) hqf
            · simp only [e, decide_false, Bool.or_false] at h'
              exact .inl h'
          · exact .inr h'
      cases hm : mvOf ops i with
      | some x =>
        have hmv : d.mv = true := by rw [hde]; simp [hm]
        simp only [hmv, if_true] at h
        obtain ⟨o', ho', hl⟩ := mvOf_looks hm
        rw [ho] at ho'; cases ho'
        exact step (opv ops base vals i x) σ (fun e => by rw [hm] at e; cases e) (fun x' e => by rw [hm] at e; cases e; exact ⟨rfl, rfl⟩)
          (QF.of_mv hm (by rw [upd_self]; exact (opv_upd (base := base) ok ho hD hp _ hl).symm)) h
      | none =>
        have hmv : d.mv = false := by rw [hde]; simp [hm]
        simp only [hmv, Bool.false_eq_true, if_false, etP] at h
        rw [hde] at h
        simp only at h
        have hgw := gd_want (base := base) ok c hi ho hp hg h
        have hav := args_ev (base := base) ok c hi ho hp hk
        cases hw : wantV ops base vals i o with
        | true =>
          obtain ⟨v, hv, het⟩ := hgw.1 hw
          rw [hav] at hv
          refine step v ((i, v) :: σ) (fun _ => rfl) (fun x e => by rw [hm] at e; cases e) ?_ het
          intro o' ro' xl' ho' hr'
          rw [ho] at ho'; cases ho'
          rw [hr] at hr'; cases hr'
          refine ⟨hquiet, fun _ => ?_, fun h0 => ?_⟩
          · rw [upd_self, ← hv]
            congr 1
            exact List.map_congr_left fun x hx => opv_upd (base := base) ok ho hD hp v (fun t e => by subst e; exact ok_mem hk hx)
          · rw [want_upd (base := base) ok ho hD hp v, hw] at h0; cases h0
        | false =>
          have het := hgw.2 hw
          refine step undef ((i, undef) :: σ) (fun _ => rfl) (fun x e => by rw [hm] at e; cases e) ?_ het
          intro o' ro' xl' ho' hr'
          rw [ho] at ho'; cases ho'
          rw [hr] at hr'; cases hr'
          refine ⟨hquiet, fun h0 => ?_, fun _ => upd_self _ _ _⟩
          rw [want_upd (base := base) ok ho hD hp undef, hw] at h0; cases h0
/-! ### the run itself -/
def lkW (ops : Array Oper) (listed : Array Bool) (t : Nat) : Nat → Option Nat
  | 0 => none
  | k + 1 => if dstAt ops k = some t ∧ listed.getD k false = true then some k else lkW ops listed t k
def fv (base : Nat → Value) (vals : Nat → Value) (t : Nat) : Option Nat → Value
  | none => base t
  | some j => vals j
structure Fri (ops : Array Oper) (base : Nat → Value) (N : Nat) (listed : Array Bool) (a : Act) (vals : Nat → Value) : Prop where
  size : a.tmps.size = N
  defers : a.defers = []
  at_ : ∀ t, a.tmps.getD t undef = fv base vals t (lkW ops listed t ops.size)
def Closed (tp : List Nat) (listed : Array Bool) : Prop := ∀ j, listed.getD j false = true → ∀ k, (tp.getD j 0).testBit k = true → listed.getD k false = true
theorem lkW_lt {listed : Array Bool} {t : Nat} : ∀ {n j : Nat}, lkW ops listed t n = some j → j < n ∧ dstAt ops j = some t ∧ listed.getD j false = true
  | 0, _, h => by simp [lkW] at h
  | k + 1, j, h => by
    simp only [lkW] at h
    split at h
    · rename_i e; simp only [Option.some.injEq] at h; subst h; exact ⟨Nat.lt_succ_self _, e⟩
    · have := lkW_lt h; exact ⟨by omega, this.2⟩
/-- what an operation that may come now finds in a slot -/
theorem lkW_ready (ok : RegOK P ops nd tp qt N) {listed : Array Bool} (cl : Closed tp listed) {i : Nat} {o : Oper} (ho : ops[i]? = some o) (hu : listed.getD i false = false)
    (hp : ∀ k, (tp.getD i 0).testBit k = true → listed.getD k false = true) {t : Nat} (ht : t ∈ o.looksAt ops) :
    ∀ n, lkW ops listed t n = lastW ops t (min n i)
  | 0 => by simp [lkW, lastW]
  | k + 1 => by
    have ih := lkW_ready ok cl ho hu hp ht k
    simp only [lkW]
    by_cases hd : dstAt ops k = some t
    · rcases Nat.lt_trichotomy k i with h | h | h
      · have : listed.getD k false = true := hp k (looks_ap ok h ho hd ht)
        rw [if_pos ⟨hd, this⟩, show min (k + 1) i = k + 1 from by omega]
        simp [lastW, hd]
      · subst h
        rw [if_neg (by rw [hu]; simp), ih]
        congr 1; omega
      · have hb := looks_ap' ok h ho hd ht
        have : ¬ listed.getD k false = true := fun e => by rw [cl k e i hb] at hu; cases hu
        rw [if_neg (fun e => this e.2), ih]
        congr 1; omega
    · rw [if_neg (fun e => hd e.1), ih]
      rcases Nat.lt_or_ge k i with h | h
      · rw [show min k i = k from by omega, show min (k + 1) i = k + 1 from by omega]
        simp [lastW, hd]
      · congr 1; omega
theorem opv_act (ok : RegOK P ops nd tp qt N) {listed : Array Bool} (cl : Closed tp listed) {i : Nat} {o : Oper} (hi : i < ops.size) (ho : ops[i]? = some o) (hu : listed.getD i false = false)
    (hp : ∀ k, (tp.getD i 0).testBit k = true → listed.getD k false = true) {a : Act} {vals : Nat → Value} (fr : Fri ops base N listed a vals) {x : Operand} (hx : ∀ t, x = .tmp t → t ∈ o.looksAt ops) :
    a.eval x = opv ops base vals i x := by
  cases x with
  | tmp t =>
    simp only [Act.eval, opv]
    have := fr.at_ t
    rw [lkW_ready ok cl ho hu hp (hx t rfl), show min ops.size i = i from by omega] at this
    rw [this]
    cases lastW ops t i <;> rfl
  | const v => rfl
  | global g => rfl
  | func f => rfl
theorem want_act (ok : RegOK P ops nd tp qt N) {listed : Array Bool} (cl : Closed tp listed) {i : Nat} {o : Oper} {g : Gd} (hi : i < ops.size) (ho : ops[i]? = some o) (hg : gdOf ops i o = some g) (hu : listed.getD i false = false)
    (hp : ∀ k, (tp.getD i 0).testBit k = true → listed.getD k false = true) {a : Act} {vals : Nat → Value} (fr : Fri ops base N listed a vals) :
    Region.wanted o (yielded ops a.tmps) = wantV ops base vals i o := by
  unfold Region.wanted wantV
  cases hgu : o.guard with
  | none => rfl
  | some jw =>
    obtain ⟨j, want⟩ := jw
    simp only
    unfold gdOf at hg
    simp only [hgu] at hg
    obtain ⟨d, hd, _⟩ := Option.map_eq_some_iff.1 hg
    simp only [hd]
    have e := opv_act (base := base) ok cl hi ho hu hp fr (x := .tmp d) (fun t e => by cases e; exact guard_looks hgu hd)
    rw [← e]
    have : yielded ops a.tmps j = asB (a.eval (.tmp d)) := by
      unfold yielded
      unfold dstAt at hd
      rw [hd]
      simp only [Option.bind_some, Act.eval]
      rcases Nat.lt_or_ge d a.tmps.size with h | h
      · simp only [Array.getElem?_eq_getElem h, Array.getD, h, dite_true]
        cases hv : a.tmps[d] <;> simp [asB, hv]
      · have h1 : a.tmps.getD d undef = undef := by simp [Array.getD, Nat.not_lt.2 h]
        rw [Array.getElem?_eq_none h, h1]; rfl
    rw [this]
theorem getD_set {listed : Array Bool} {i k : Nat} (hi : i < listed.size) : (listed.setIfInBounds i true).getD k false = (decide (k = i) || listed.getD k false) := by
  by_cases e : k = i
  · subst e; simp [hi]
  · have : i ≠ k := fun h => e h.symm
    simp [Array.getElem?_setIfInBounds_ne this, e]
theorem lkW_set (ok : RegOK P ops nd tp qt N) {listed : Array Bool} (cl : Closed tp listed) {i : Nat} (hl : i < listed.size) (hu : listed.getD i false = false) (t : Nat) :
    ∀ n, lkW ops (listed.setIfInBounds i true) t n = if dstAt ops i = some t ∧ i < n then some i else lkW ops listed t n
  | 0 => by simp [lkW]
  | k + 1 => by
    have ih := lkW_set ok cl hl hu t k
    simp only [lkW, getD_set hl, ih]
    by_cases hd : dstAt ops k = some t
    · by_cases e : k = i
      · subst e; simp [hd]
      · simp only [hd, e, decide_false, Bool.false_or, true_and]
        by_cases hk : listed.getD k false = true
        · rw [if_pos hk]
          by_cases hdi : dstAt ops i = some t ∧ i < k + 1
          · have hik : i < k := by omega
            have := cl k hk i (dst_ap ok hik hdi.1 hd)
            rw [hu] at this; cases this
          · rw [if_neg hdi, if_pos hk]
        · rw [if_neg hk, if_neg hk]
          by_cases hdi : dstAt ops i = some t
          · by_cases h : i < k
            · rw [if_pos ⟨hdi, h⟩, if_pos ⟨hdi, by omega⟩]
            · rw [if_neg (fun e => h e.2), if_neg (fun e => by omega)]
          · rw [if_neg (fun e => hdi e.1), if_neg (fun e => hdi e.1)]
    · rw [if_neg (fun e => hd e.1), if_neg (fun e : dstAt ops k = some t ∧ _ => hd e.1)]
      by_cases hdi : dstAt ops i = some t
      · have hne : k ≠ i := fun e => by subst e; exact hd hdi
        by_cases h : i < k
        · rw [if_pos ⟨hdi, h⟩, if_pos ⟨hdi, by omega⟩]
        · rw [if_neg (fun e => h e.2), if_neg (fun e => by omega)]
      · rw [if_neg (fun e => hdi e.1), if_neg (fun e => hdi e.1)]
theorem Fri.put (ok : RegOK P ops nd tp qt N) {listed : Array Bool} (cl : Closed tp listed) {i : Nat} {o : Oper} (hi : i < ops.size) (ho : ops[i]? = some o) (hl : i < listed.size) (hu : listed.getD i false = false)
    {a : Act} {vals vals' : Nat → Value} (fr : Fri ops base N listed a vals) (hv : ∀ k, listed.getD k false = true → vals' k = vals k) {v : Value} (hvi : vals' i = v) :
    Fri ops base N (listed.setIfInBounds i true) (a.put o.dst v) vals' := by
  have hdo : dstAt ops i = o.dst := by simp [dstAt, ho]
  have hold : ∀ t n, fv base vals' t (lkW ops listed t n) = fv base vals t (lkW ops listed t n) := fun t n => by
    cases h : lkW ops listed t n with
    | none => rfl
    | some j => exact hv j (lkW_lt h).2.2
  cases hd : o.dst with
  | none =>
    rw [hd] at hdo
    refine ⟨fr.size, fr.defers, fun t => ?_⟩
    rw [lkW_set ok cl hl hu t, if_neg (fun e => by rw [hdo] at e; cases e.1), hold]
    exact fr.at_ t
  | some d =>
    rw [hd] at hdo
    have hdN := ok.hdst i d hdo
    refine ⟨by simp [Act.put, fr.size], fr.defers, fun t => ?_⟩
    rw [lkW_set ok cl hl hu t]
    by_cases e : t = d
    · subst e
      rw [if_pos ⟨hdo, hi⟩]
      simp only [fv, hvi, Act.put]
      have : t < a.tmps.size := by rw [fr.size]; exact hdN
      simp [this]
    · rw [if_neg (fun h => by rw [hdo] at h; exact e (Option.some.inj h.1).symm), hold]
      rw [← fr.at_ t]
      simp only [Act.put]
      have : d ≠ t := fun h => e h.symm
      simp [Array.getElem?_setIfInBounds_ne this]
end sim
end Go.Fw
namespace Go.Fw
section sim
variable {P : Program} {ops : Array Oper} {base : Nat → Value} {nd : List Nd} {tp : List Nat} {qt : List Bool} {N : Nat} {outs : List (Nat × X)} {K : Env → Mem → Prop}
theorem rd_indep {ro : RO} (h : ro.reads = false) (args : List Value) (m m' : Mem) : rd ro args m = rd ro args m' := by
  simp only [rd, h]
theorem wp_of_xstep {o : Oper} {a : Act} {w : World} {Kx : Value → Mem → Prop} {next : Act → World → Prop} {Q : Exit → Act → World → Prop}
    (h : XStep P o a.eval (absM w) Kx) (hn : ∀ v w', Side w w' → Kx v (absM w') → next (a.put o.dst v) w') : o.wp P a w next Q := by
  have h1 := h w rfl
  unfold Oper.wp
  generalize (execOp a.eval o).run P w = r at *
  cases r with
  | halt x w' => exact h1.elim
  | ok n w' =>
    cases n <;> simp only [XUpon] at h1 <;> simp only [Oper.upon] <;> first | exact h1.elim | skip
    · exact hn _ _ h1.1 h1.2
    · exact hn _ _ h1.1 h1.2
    · exact h1.2.mono fun e w'' ⟨v, he, hs, hk⟩ => by subst he; exact hn _ _ (h1.1.trans hs) hk
theorem allOf_mem {L : Nat → Value} {σ : Env} {m : Mem} : ∀ {l : List ET}, etP P L (allOf l) σ m K → ∀ e ∈ l, etP P L e σ m K
  | [], _, e, he => by cases he
  | [a], h, e, he => by simp only [List.mem_singleton] at he; subst he; exact h
  | a :: b :: r, h, e, he => by
    simp only [allOf, etP] at h
    rcases List.mem_cons.1 he with rfl | he
    · exact h.1
    · exact allOf_mem (l := b :: r) h.2 e he
theorem rcP_mem {L : Nat → Value} {σ : Env} {m : Mem} : ∀ {l : List (Nat × RO × List X × Gd)}, rcP L σ m l → ∀ e ∈ l, gP L σ e.2.2.2 (rd e.2.1 (e.2.2.1.map (X.ev L σ)) m = some (σ.get e.1)) True
  | [], _, e, he => by cases he
  | (i, ro, args, g) :: r, h, e, he => by
    simp only [rcP] at h
    rcases List.mem_cons.1 he with rfl | he
    · exact h.1
    · exact rcP_mem h.2 e he
structure St (P : Program) (ops : Array Oper) (base : Nat → Value) (tp : List Nat) (qt : List Bool) (N : Nat) (listed : Array Bool) (a : Act) (w : World) (D : Nat) (σ : Env) (vals : Nat → Value) : Prop where
  can : Can ops base tp D σ vals
  sat : firstQ (List.range ops.size) tp qt D = none
  size : listed.size = ops.size
  closed : Closed tp listed
  sub : ∀ i, listed.getD i false = true → D.testBit i = true
  xin : ∀ i, i < ops.size → D.testBit i = true → listed.getD i false = false → qt.getD i false = true
  qf : ∀ i, i < ops.size → D.testBit i = true → listed.getD i false = false → QF P ops base vals (absM w) i
  fri : Fri ops base N listed a vals
theorem out_ev (ok : RegOK P ops nd tp qt N) {listed : Array Bool} {a : Act} {w : World} {D : Nat} {σ : Env} {vals : Nat → Value} (s : St P ops base tp qt N listed a w D σ vals)
    (hall : ∀ i, i < ops.size → listed.getD i false = true) (t : Nat) : a.tmps.getD t undef = (src ops ops.size (.tmp t)).ev base σ := by
  have e : ∀ n, n ≤ ops.size → lkW ops listed t n = lastW ops t n := by
    intro n
    induction n with
    | zero => intro _; rfl
    | succ k ih =>
      intro hk
      simp only [lkW, lastW, ih (by omega)]
      have := hall k (by omega)
      by_cases hd : dstAt ops k = some t
      · rw [if_pos ⟨hd, this⟩, if_pos hd]
      · rw [if_neg (fun e => hd e.1), if_neg hd]
  rw [s.fri.at_ t, e _ (Nat.le_refl _), src_ev (base := base) ok s.can (Nat.le_refl _) (fun t' j _ hw => s.sub j (hall j (lastW_lt hw).1))]
  simp only [opv]
  cases lastW ops t ops.size <;> rfl
theorem sim (ok : RegOK P ops nd tp qt N) (dr : RegDr ops tp) (houts : ∀ p ∈ outs, p.2 = src ops ops.size (.tmp p.1)) {w0 : World} {Q : Exit → Act → World → Prop}
    (hQ : ∀ a' w' L', Side w0 w' → a'.tmps.size = N → a'.defers = [] → (∀ p ∈ L', a'.tmps.getD p.1 undef = p.2) → K L' (absM w') → Q .normal a' w') :
    ∀ (k : Nat) (listed : Array Bool) (a : Act) (w : World) (f D : Nat) (σ : Env) (vals : Nat → Value), (∃ left : List Nat, left.length ≤ k ∧ ∀ i, i < ops.size → listed.getD i false = false → i ∈ left) → Side w0 w →
      St P ops base tp qt N listed a w D σ vals → etP P base (mkT (List.range ops.size) nd tp qt outs (f + 1) D) σ (absM w) K → wpAny P .any ops Q k listed a w := by
  -- nothing may come: all is done
  have hend : ∀ (listed : Array Bool) (a : Act) (w : World) (f D : Nat) (σ : Env) (vals : Nat → Value), Side w0 w → St P ops base tp qt N listed a w D σ vals →
      etP P base (mkT (List.range ops.size) nd tp qt outs (f + 1) D) σ (absM w) K → Region.ready .any ops listed = [] → Q .normal a w := by
    intro listed a w f D σ vals hs s het hr
    have hall : ∀ i, i < ops.size → listed.getD i false = true := by
      intro i
      induction i using Nat.strongRecOn with
      | _ i ih =>
        intro hi
        cases hu : listed.getD i false
        · exfalso
          have : i ∈ Region.ready .any ops listed := by
            rw [mem_ready]
            refine ⟨?_, ops[i], Array.getElem?_eq_getElem hi, fun e he hb => ?_⟩
            · have : i < listed.size := by rw [s.size]; exact hi
              simp only [Array.getD_eq_getD_getElem?, Array.getElem?_eq_getElem this, Option.getD_some] at hu ⊢
              exact hu
            · have hlt := dr.back i ops[i] (Array.getElem?_eq_getElem hi) e he hb
              exact ih e.on hlt (by omega)
          rw [hr] at this; cases this
        · rfl
    have hD : ∀ i, i < ops.size → D.testBit i = true := fun i hi => s.sub i (hall i hi)
    simp only [mkT, s.sat] at het
    have hrx : readyX (List.range ops.size) tp qt D = [] := by
      unfold readyX
      rw [List.filter_eq_nil_iff]
      intro i hi
      simp [hD i (by simpa using hi)]
    have hal : (List.range ops.size).all (fun i => D.testBit i) = true := by
      rw [List.all_eq_true]; intro i hi; exact hD i (by simpa using hi)
    simp only [hrx, hal, if_true, etP] at het
    refine hQ a w _ hs s.fri.size s.fri.defers ?_ het
    intro p hp
    obtain ⟨q, hq, rfl⟩ := List.mem_map.1 hp
    simp only
    rw [houts q hq]
    exact out_ev ok s hall q.1
  intro k
  induction k with
  | zero =>
    rintro listed a w f D σ vals ⟨left, hlen, hleft⟩ hs s het
    have hnil : left = [] := List.eq_nil_of_length_eq_zero (by omega)
    subst hnil
    have hr : Region.ready .any ops listed = [] := by
      cases hr : Region.ready .any ops listed with
      | nil => rfl
      | cons i r =>
        have hi : i ∈ Region.ready .any ops listed := by rw [hr]; exact List.mem_cons_self ..
        obtain ⟨h0, o, ho, _⟩ := mem_ready.1 hi
        have hlt : i < ops.size := (Array.getElem?_eq_some_iff.1 ho).1
        have hl : i < listed.size := by rw [s.size]; exact hlt
        have : listed.getD i false = false := by
          simp only [Array.getD_eq_getD_getElem?, Array.getElem?_eq_getElem hl, Option.getD_some] at h0 ⊢
          exact h0
        cases hleft i hlt this
    exact ⟨hr, hend listed a w f D σ vals hs s het hr⟩
  | succ k ih =>
    rintro listed a w f D σ vals ⟨left, hlen, hleft⟩ hs s het
    refine ⟨fun hr => hend listed a w f D σ vals hs s het hr, fun i hir => ?_⟩
    obtain ⟨h0, o, ho, hdir⟩ := mem_ready.1 hir
    have hlt : i < ops.size := (Array.getElem?_eq_some_iff.1 ho).1
    have hl : i < listed.size := by rw [s.size]; exact hlt
    have hu : listed.getD i false = false := by
      simp only [Array.getD_eq_getD_getElem?, Array.getElem?_eq_getElem hl, Option.getD_some] at h0 ⊢
      exact h0
    -- its predecessors are done
    have hp : ∀ j, (tp.getD i 0).testBit j = true → listed.getD j false = true := by
      intro j hj
      obtain ⟨e, he, hb, h | h⟩ := dr.htp i o ho j hj
      · subst h; exact hdir e he hb
      · exact s.closed e.on (hdir e he hb) j h
    have hpD : ∀ j, (tp.getD i 0).testBit j = true → D.testBit j = true := fun j hj => s.sub j (hp j hj)
    obtain ⟨d, hd, hnd⟩ := ok.hnd i hlt
    obtain ⟨o', ro, xl, g, ho', hr, hk, hg, hde⟩ := nd_parts hnd
    rw [ho] at ho'; cases ho'
    have hqt := ok.hqt i d hlt hd
    have hwa := want_act (base := base) ok s.closed hlt ho hg hu hp s.fri
    have hargs : xl.map a.eval = xl.map (opv ops base vals i) := List.map_congr_left fun x hx =>
      opv_act (base := base) ok s.closed hlt ho hu hp s.fri (fun t e => by subst e; exact ok_mem hk hx)
    have hleft' : ∃ left' : List Nat, left'.length ≤ k ∧ ∀ j, j < ops.size → (listed.setIfInBounds i true).getD j false = false → j ∈ left' := by
      have hmem := hleft i hlt hu
      refine ⟨left.erase i, by rw [List.length_erase_of_mem hmem]; omega, fun j hj hju => ?_⟩
      rw [getD_set hl] at hju
      simp only [Bool.or_eq_false_iff, decide_eq_false_iff_not] at hju
      exact (List.mem_erase_of_ne hju.1).2 (hleft j hj hju.2)
    have hcl' : Closed tp (listed.setIfInBounds i true) := by
      intro j hj n hn
      rw [getD_set hl] at hj ⊢
      by_cases e : j = i
      · subst e; rw [hp n hn]; simp
      · simp only [e, decide_false, Bool.false_or] at hj
        rw [s.closed j hj n hn]; simp
    unfold wpOp
    simp only [ho]
    cases hqi : ro.quiet with
    | true =>
      have hqg : qt.getD i false = true := by rw [List.getD_eq_getElem?_getD, hqt, hde]; simpa using hqi
      have hD : D.testBit i = true := firstQ_none s.sat (by simpa using hlt) hqg hpD
      have hqf := s.qf i hlt hD hu o ro xl ho hr
      -- behind it
      have hnext : wpAny P .any ops Q k (listed.setIfInBounds i true) (a.put o.dst (vals i)) w := by
        refine ih _ _ _ f D σ vals hleft' hs ?_ het
        refine ⟨s.can, s.sat, by simp [s.size], hcl', fun j hj => ?_, fun j hj hjD hju => ?_, fun j hj hjD hju => ?_, ?_⟩
        · rw [getD_set hl] at hj
          by_cases e : j = i
          · subst e; exact hD
          · simp only [e, decide_false, Bool.false_or] at hj; exact s.sub j hj
        · rw [getD_set hl] at hju
          simp only [Bool.or_eq_false_iff] at hju
          exact s.xin j hj hjD hju.2
        · rw [getD_set hl] at hju
          simp only [Bool.or_eq_false_iff] at hju
          exact s.qf j hj hjD hju.2
        · exact s.fri.put ok s.closed hlt ho hl hu (fun _ _ => rfl) rfl
      rw [hwa]
      cases hw : wantV ops base vals i o with
      | true =>
        simp only [if_true]
        left
        have hrd := hqf.2.1 hw
        rw [← hargs] at hrd
        have hrun := res_quiet (w := w) hr hqi hrd rfl (fun f => rfl)
        unfold Oper.wp
        rw [hrun]
        exact hnext
      | false =>
        simp only [Bool.false_eq_true, if_false]
        rw [← hqf.2.2 hw]
        exact hnext
    | false =>
      have hqg : qt.getD i true = false := by rw [List.getD_eq_getElem?_getD, hqt, hde]; simpa using hqi
      have hqg' : qt.getD i false = false := by rw [List.getD_eq_getElem?_getD, hqt, hde]; simpa using hqi
      have hD : D.testBit i = false := by
        cases h : D.testBit i
        · rfl
        · have := s.xin i hlt h hu; rw [hqg'] at this; cases this
      have hmv : mvOf ops i = none := by
        cases hm : mvOf ops i with
        | none => rfl
        | some x =>
          have := (QF.of_mv (P := P) (m := absM w) (vals := upd vals i (opv ops base vals i x)) hm (by
            rw [upd_self]
            obtain ⟨o2, ho2, hl2⟩ := mvOf_looks hm
            rw [ho] at ho2; cases ho2
            exact (opv_upd (base := base) ok ho hD hpD _ hl2).symm)) o ro xl ho hr
          rw [hqi] at this; cases this.1
      -- its step in the tree
      have hin : i ∈ readyX (List.range ops.size) tp qt D := by
        unfold readyX
        rw [List.mem_filter]
        refine ⟨by simpa using hlt, ?_⟩
        have hand : ((tp.getD i 0) &&& D == tp.getD i 0) = true := by
          simp only [beq_iff_eq]
          apply Nat.eq_of_testBit_eq
          intro n
          rw [Nat.testBit_and]
          cases hb : (tp.getD i 0).testBit n
          · rfl
          · simp [hpD n hb]
        rw [hD, hqg, hand]; rfl
      have hx : etP P base (.x i ro (xl.map (src ops i)) g (rcOf (List.range ops.size) nd tp D i) (mkT (List.range ops.size) nd tp qt outs f (D ||| 2 ^ i))) σ (absM w) K := by
        simp only [mkT, s.sat] at het
        cases hrl : readyX (List.range ops.size) tp qt D with
        | nil => rw [hrl] at hin; cases hin
        | cons j0 r0 =>
          rw [hrl] at het hin
          simp only at het
          have := allOf_mem het _ (List.mem_map.2 ⟨i, hin, rfl⟩)
          rw [hd] at this
          simp only [hde] at this
          exact this
      simp only [etP] at hx
      have hgw := gd_want (base := base) ok s.can hlt ho hpD hg hx
      have hav := args_ev (base := base) ok s.can hlt ho hpD hk
      -- behind it, whatever it has done
      have hafter : ∀ v w', Side w0 w' → (∀ j, j < ops.size → D.testBit j = true → (listed.setIfInBounds i true).getD j false = false → QF P ops base (upd vals i v) (absM w') j) →
          etP P base (mkT (List.range ops.size) nd tp qt outs f (D ||| 2 ^ i)) ((i, v) :: σ) (absM w') K → wpAny P .any ops Q k (listed.setIfInBounds i true) (a.put o.dst v) w' := by
        intro v w' hs' hqf' het'
        have c1 := s.can.add ok hlt hD hpD v ((i, v) :: σ) (fun _ => rfl) (fun x e => by rw [hmv] at e; cases e)
        obtain ⟨f', D', σ', vals', c', hq', het'', hk', hn'⟩ := advance ok f (D ||| 2 ^ i) _ _ _ c1 het'
        have hiD' : (D ||| 2 ^ i).testBit i = true := by rw [testBit_or_pow]; simp
        refine ih _ _ _ f' D' σ' vals' hleft' hs' ?_ het''
        refine ⟨c', hq', by simp [s.size], hcl', fun j hj => ?_, fun j hj hjD hju => ?_, fun j hj hjD hju => ?_, ?_⟩
        · rw [getD_set hl] at hj
          refine (hk' j ?_).1
          rw [testBit_or_pow]
          by_cases e : j = i
          · simp [e]
          · simp only [e, decide_false, Bool.false_or] at hj; simp [s.sub j hj]
        · have hne : j ≠ i := fun e => by subst e; rw [getD_set hl] at hju; simp at hju
          rcases hn' j hjD with h' | h'
          · rw [testBit_or_pow] at h'
            simp only [hne, decide_false, Bool.or_false] at h'
            rw [getD_set hl] at hju
            simp only [Bool.or_eq_false_iff] at hju
            exact s.xin j hj h' hju.2
          · obtain ⟨dj, hdj, hndj⟩ := ok.hnd j hj
            obtain ⟨oj, roj, xlj, gj, hoj, hrj, _, _, hdej⟩ := nd_parts hndj
            have := (h' oj roj xlj hoj hrj).1
            rw [List.getD_eq_getElem?_getD, ok.hqt j dj hj hdj, hdej]
            simpa using this
        · have hne : j ≠ i := fun e => by subst e; rw [getD_set hl] at hju; simp at hju
          rcases hn' j hjD with h' | h'
          · have h'' := h'
            rw [testBit_or_pow] at h'
            simp only [hne, decide_false, Bool.or_false] at h'
            obtain ⟨dj, hdj, hndj⟩ := ok.hnd j hj
            exact QF.keep (D := D ||| 2 ^ i) ok hndj h'' (c1.closed j h'') (fun n hn => (hk' n hn).2) (hqf' j hj h' hju)
          · exact h'
        · have hvi : vals' i = v := by rw [(hk' i hiD').2, upd_self]
          refine s.fri.put ok s.closed hlt ho hl hu (fun n hn => ?_) hvi
          have hnD := s.sub n hn
          have hne : n ≠ i := fun e => by subst e; rw [hD] at hnD; cases hnD
          rw [(hk' n (by rw [testBit_or_pow]; simp [hnD])).2, upd_ne v hne]
      rw [hwa]
      cases hw : wantV ops base vals i o with
      | false =>
        simp only [Bool.false_eq_true, if_false]
        refine hafter undef w hs (fun j hj hjD hju => ?_) (hgw.2 hw)
        rw [getD_set hl] at hju
        simp only [Bool.or_eq_false_iff, decide_eq_false_iff_not] at hju
        obtain ⟨dj, hdj, hndj⟩ := ok.hnd j hj
        exact QF.keep (D := D) ok hndj hjD (s.can.closed j hjD) (fun n hn => upd_ne _ (fun e => by subst e; rw [hD] at hn; cases hn)) (s.qf j hj hjD hju.2)
      | true =>
        simp only [if_true]
        left
        have hxs := hgw.1 hw
        rw [hav, ← hargs] at hxs
        have hst := res_x hr hqi hxs (fun f => rfl)
        refine wp_of_xstep hst fun v w' hs' ⟨hrc, het'⟩ => hafter v w' (hs.trans hs') (fun j hj hjD hju => ?_) het'
        rw [getD_set hl] at hju
        simp only [Bool.or_eq_false_iff, decide_eq_false_iff_not] at hju
        obtain ⟨dj, hdj, hndj⟩ := ok.hnd j hj
        have hold := s.qf j hj hjD hju.2
        have hkeepD : ∀ n, D.testBit n = true → upd vals i v n = vals n := fun n hn => upd_ne _ (fun e => by subst e; rw [hD] at hn; cases hn)
        have h1 := QF.keep (D := D) ok hndj hjD (s.can.closed j hjD) hkeepD hold
        obtain ⟨oj, roj, xlj, gj, hoj, hrj, hkj, hgj, hdej⟩ := nd_parts hndj
        intro oj' roj' xlj' hoj' hrj'
        rw [hoj] at hoj'; cases hoj'
        rw [hrj] at hrj'; cases hrj'
        have h1' := h1 oj roj xlj hoj hrj
        refine ⟨h1'.1, fun hwj => ?_, h1'.2.2⟩
        cases hre : roj.reads with
        | false => rw [rd_indep hre _ (absM w') (absM w)]; exact h1'.2.1 hwj
        | true =>
          have hmem : (j, roj, xlj.map (src ops j), gj) ∈ rcOf (List.range ops.size) nd tp D i := by
            unfold rcOf
            rw [List.mem_filterMap]
            refine ⟨j, by simpa using hj, ?_⟩
            have hntp : (tp.getD i 0).testBit j = false := by
              cases h : (tp.getD i 0).testBit j
              · rfl
              · rw [hp j h] at hju; cases hju.2
            rw [hdj]
            simp only [Option.bind_some, hdej]
            rw [hjD, h1'.1, hre, hntp]
            rfl
          have hg1 := rcP_mem hrc _ hmem
          have c1 := s.can.add ok hlt hD hpD v ((i, v) :: σ) (fun _ => rfl) (fun x e => by rw [hmv] at e; cases e)
          have hpj : ∀ n, (tp.getD j 0).testBit n = true → (D ||| 2 ^ i).testBit n = true := fun n hn => c1.closed j (by rw [testBit_or_pow]; simp [hjD]) n hn
          have hg2 := (gd_want (base := base) ok c1 hj hoj hpj hgj hg1).1 hwj
          rw [args_ev (base := base) ok c1 hj hoj hpj hkj] at hg2
          have hmvj : mvOf ops j = none := by
            cases hm : mvOf ops j with
            | none => rfl
            | some x =>
              obtain ⟨hgn, hop⟩ := mv_guard hm hoj
              obtain ⟨dst, op, type, pos, after, guard⟩ := oj
              rcases hop with rfl | rfl <;> (simp only [res] at hrj; obtain ⟨rfl, rfl⟩ := some_pair hrj; simp [RO.reads] at hre)
          rw [hg2, c1.sg j (by rw [testBit_or_pow]; simp [hjD]) hmvj]
/-! ### the order of the text alone -/
theorem testBit_ones (i k : Nat) : (2 ^ i - 1).testBit k = decide (k < i) := Nat.testBit_two_pow_sub_one i k
theorem seq_sim (ok : RegOK P ops nd tp qt N) (htp : ∀ i, i < ops.size → ∀ k, (tp.getD i 0).testBit k = true → k < i) (houts : ∀ p ∈ outs, p.2 = src ops ops.size (.tmp p.1)) {w0 : World} {Q : Exit → Act → World → Prop}
    (hQ : ∀ a' w' L', Side w0 w' → a'.tmps.size = N → a'.defers = [] → (∀ p ∈ L', a'.tmps.getD p.1 undef = p.2) → K L' (absM w') → Q .normal a' w') :
    ∀ (k i : Nat) (a : Act) (w : World) (σ : Env) (vals : Nat → Value), i + k = ops.size → nd.length = ops.size → Side w0 w → a.tmps.size = N → a.defers = [] → Can ops base tp (2 ^ i - 1) σ vals →
      (∀ t, a.tmps.getD t undef = fv base vals t (lastW ops t i)) → etP P base (mkS outs (nd.drop i) i) σ (absM w) K → wpList P ops Q (ops.toList.drop i) a w := by
  intro k
  induction k with
  | zero =>
    intro i a w σ vals hik hlen hs hN hdf c hfr het
    have e : i = ops.size := by omega
    subst e
    rw [List.drop_eq_nil_of_le (by simp)]
    rw [List.drop_eq_nil_of_le (by omega)] at het
    simp only [mkS, etP] at het
    refine hQ a w _ hs hN hdf (fun p hp => ?_) het
    obtain ⟨q, hq, rfl⟩ := List.mem_map.1 hp
    simp only
    rw [houts q hq, src_ev (base := base) ok c (Nat.le_refl _) (fun t j _ hw => by rw [testBit_ones]; simpa using (lastW_lt hw).1), hfr]
    simp only [opv]
    cases lastW ops q.1 ops.size <;> rfl
  | succ k ih =>
    intro i a w σ vals hik hlen hs hN hdf c hfr het
    have hlt : i < ops.size := by omega
    obtain ⟨d, hd, hnd⟩ := ok.hnd i hlt
    obtain ⟨o, ro, xl, g, ho, hr, hk, hg, hde⟩ := nd_parts hnd
    have hoe : ops.toList.drop i = o :: ops.toList.drop (i + 1) := by
      rw [List.drop_eq_getElem_cons (by simpa using hlt)]
      congr 1
      rw [Array.getElem?_eq_getElem hlt] at ho
      simpa using ho
    have hde' : nd.drop i = d :: nd.drop (i + 1) := by
      have hl : i < nd.length := by omega
      rw [List.drop_eq_getElem_cons hl]
      congr 1
      rw [List.getElem?_eq_getElem hl] at hd
      simpa using hd
    rw [hde'] at het
    rw [hoe]
    have hD : (2 ^ i - 1).testBit i = false := by rw [testBit_ones]; simp
    have hp : ∀ n, (tp.getD i 0).testBit n = true → (2 ^ i - 1).testBit n = true := fun n hn => by rw [testBit_ones]; simpa using htp i hlt n hn
    have hsucc : (2 ^ i - 1) ||| 2 ^ i = 2 ^ (i + 1) - 1 := by
      apply Nat.eq_of_testBit_eq
      intro n
      rw [testBit_or_pow, testBit_ones, testBit_ones]
      by_cases e : n = i
      · subst e; simp
      · simp only [e, decide_false, Bool.or_false]
        congr 1
        exact propext (by omega)
    have hact : ∀ x : Operand, a.eval x = opv ops base vals i x := fun x => by
      cases x with
      | tmp t => simp only [Act.eval, opv]; rw [hfr t]; cases lastW ops t i <;> rfl
      | const v => rfl
      | global g => rfl
      | func f => rfl
    have hargs : xl.map a.eval = xl.map (opv ops base vals i) := List.map_congr_left fun x _ => hact x
    have hwa : Region.wanted o (yielded ops a.tmps) = wantV ops base vals i o := by
      unfold Region.wanted wantV
      cases hgu : o.guard with
      | none => rfl
      | some jw =>
        obtain ⟨j, want⟩ := jw
        simp only
        unfold gdOf at hg
        simp only [hgu] at hg
        obtain ⟨d', hd', _⟩ := Option.map_eq_some_iff.1 hg
        simp only [hd']
        rw [← hact (.tmp d')]
        have : yielded ops a.tmps j = asB (a.eval (.tmp d')) := by
          unfold yielded
          unfold dstAt at hd'
          rw [hd']
          simp only [Option.bind_some, Act.eval]
          rcases Nat.lt_or_ge d' a.tmps.size with h | h
          · simp only [Array.getElem?_eq_getElem h, Array.getD, h, dite_true]
            cases hv : a.tmps[d'] <;> simp [asB, hv]
          · have h1 : a.tmps.getD d' undef = undef := by simp [Array.getD, Nat.not_lt.2 h]
            rw [Array.getElem?_eq_none h, h1]; rfl
        rw [this]
    -- behind it
    have hnext : ∀ (v : Value) (σ1 : Env) (w' : World), Side w0 w' → (mvOf ops i = none → σ1 = (i, v) :: σ) → (∀ x, mvOf ops i = some x → σ1 = σ ∧ v = opv ops base vals i x) →
        etP P base (mkS outs (nd.drop (i + 1)) (i + 1)) σ1 (absM w') K → wpList P ops Q (ops.toList.drop (i + 1)) (a.put o.dst v) w' := by
      intro v σ1 w' hs' h1 h2 het'
      have c1 := c.add ok hlt hD hp v σ1 h1 h2
      rw [hsucc] at c1
      have hdo : dstAt ops i = o.dst := by simp [dstAt, ho]
      refine ih (i + 1) _ w' σ1 (upd vals i v) (by omega) hlen hs' ?_ ?_ c1 (fun t => ?_) het'
      · cases hdd : o.dst <;> simp [Act.put, hN]
      · cases hdd : o.dst <;> simp [Act.put, hdf]
      · simp only [lastW, hdo]
        have hold : fv base (upd vals i v) t (lastW ops t i) = a.tmps.getD t undef := by
          rw [hfr t]
          cases hw : lastW ops t i with
          | none => rfl
          | some j => simp only [fv]; exact upd_ne v (by have := (lastW_lt hw).1; omega)
        cases hdd : o.dst with
        | none => simp only [Act.put, reduceCtorEq, if_false]; exact hold.symm
        | some dd =>
          have hdN := ok.hdst i dd (by rw [hdo]; exact hdd)
          by_cases e : dd = t
          · subst e
            simp only [Act.put, if_true, fv, upd_self]
            have : dd < a.tmps.size := by rw [hN]; exact hdN
            simp [this]
          · rw [if_neg (fun h => e (Option.some.inj h)), hold]
            simp only [Act.put]
            simp [Array.getElem?_setIfInBounds_ne e]
    unfold wpList
    rw [hwa]
    cases hm : mvOf ops i with
    | some x =>
      have hmv : d.mv = true := by rw [hde]; simp [hm]
      simp only [mkS, hmv, if_true] at het
      obtain ⟨hgn, hop⟩ := mv_guard hm ho
      have hwt : wantV ops base vals i o = true := by simp [wantV, hgn]
      rw [hwt]
      simp only [if_true]
      left
      have hrun : (execOp a.eval o).run P w = .ok (.value (a.eval x)) w := by
        rcases hop with e | e <;> simp [execOp, e]
      unfold Oper.wp
      rw [hrun]
      simp only [Oper.upon]
      exact hnext _ σ w hs (fun e => by rw [hm] at e; cases e) (fun x' e => by rw [hm] at e; cases e; exact ⟨rfl, hact x⟩) het
    | none =>
      have hmv : d.mv = false := by rw [hde]; simp [hm]
      have h1 : ∀ v, (mvOf ops i = none → ((i, v) :: σ) = (i, v) :: σ) := fun _ _ => rfl
      have h2 : ∀ v x, mvOf ops i = some x → ((i, v) :: σ) = σ ∧ v = opv ops base vals i x := fun _ x e => by rw [hm] at e; cases e
      simp only [mkS, hmv, Bool.false_eq_true, if_false] at het
      cases hq : ro.quiet with
      | true =>
        have hq' : d.ro.quiet = true := by rw [hde]; exact hq
        simp only [hq', if_true, etP] at het
        rw [hde] at het
        simp only at het
        have hgw := gd_want (base := base) ok c hlt ho hp hg het
        have hav := args_ev (base := base) ok c hlt ho hp hk
        cases hw : wantV ops base vals i o with
        | true =>
          simp only [if_true]
          left
          obtain ⟨v, hv, het'⟩ := hgw.1 hw
          rw [hav, ← hargs] at hv
          have hrun := res_quiet (w := w) hr hq hv rfl (fun f => rfl)
          unfold Oper.wp
          rw [hrun]
          exact hnext v _ w hs (h1 v) (h2 v) het'
        | false =>
          simp only [Bool.false_eq_true, if_false]
          exact hnext undef _ w hs (h1 undef) (h2 undef) (hgw.2 hw)
      | false =>
        have hq' : d.ro.quiet = false := by rw [hde]; exact hq
        simp only [hq', Bool.false_eq_true, if_false, etP] at het
        rw [hde] at het
        simp only at het
        have hgw := gd_want (base := base) ok c hlt ho hp hg het
        have hav := args_ev (base := base) ok c hlt ho hp hk
        cases hw : wantV ops base vals i o with
        | true =>
          simp only [if_true]
          left
          have hxs := hgw.1 hw
          rw [hav, ← hargs] at hxs
          have hst := res_x hr hq hxs (fun f => rfl)
          exact wp_of_xstep hst fun v w' hs' ⟨_, het'⟩ => hnext v _ w' (hs.trans hs') (h1 v) (h2 v) het'
        | false =>
          simp only [Bool.false_eq_true, if_false]
          exact hnext undef _ w hs (h1 undef) (h2 undef) (hgw.2 hw)
end sim
end Go.Fw
namespace Go.Fw
/-! ### a region's tree, checked -/
def backB (ops : Array Oper) : Bool := (List.range ops.size).all fun i => match ops[i]? with | some o => o.after.toList.all fun e => !Region.binds .any e || decide (e.on < i) | none => true
def apB (ops : Array Oper) (tp : List Nat) : Bool :=
  (List.range ops.size).all fun j => (List.range j).all fun i => (tp.getD j 0).testBit i || (match ops[i]?, ops[j]? with | some x, some y => x.apart ops y | _, _ => true)
def dstB (ops : Array Oper) (N : Nat) : Bool := (List.range ops.size).all fun i => match dstAt ops i with | some d => decide (d < N) | none => true
def regTree (P : Program) (N : Nat) (ops : Array Oper) (draw : Bool) (live : List Nat) : Option ET :=
  ((List.range ops.size).mapM (ndOf P ops)).bind fun nd =>
    if dstB ops N then
      if draw then
        if backB ops && apB ops (tps ops.toList []) then
          some (mkT (List.range ops.size) nd (tps ops.toList []) (nd.map (·.ro.quiet)) (live.map fun t => (t, src ops ops.size (.tmp t))) (2 * ops.size + 2) 0)
        else none
      else some (mkS (live.map fun t => (t, src ops ops.size (.tmp t))) nd 0)
    else none
theorem tps_len : ∀ (l : List Oper) (acc : List Nat), (tps l acc).length = acc.length + l.length
  | [], acc => by simp [tps]
  | o :: r, acc => by simp [tps, tps_len r]; omega
theorem tps_acc : ∀ (l : List Oper) (acc : List Nat) (i : Nat), i < acc.length → (tps l acc).getD i 0 = acc.getD i 0
  | [], acc, i, h => rfl
  | o :: r, acc, i, h => by
    rw [tps, tps_acc r _ i (by simp; omega)]
    simp [List.getElem?_append_left h]
theorem tps_at : ∀ (l : List Oper) (acc : List Nat) (i : Nat) (o : Oper), l[i]? = some o → (tps l acc).getD (acc.length + i) 0 = tpStep ((tps l acc).take (acc.length + i)) o
  | [], acc, i, o, h => by simp at h
  | o :: r, acc, 0, o', h => by
    simp only [List.getElem?_cons_zero, Option.some.injEq] at h
    subst h
    have h1 := tps_acc r (acc ++ [tpStep acc o]) acc.length (by simp)
    simp only [tps, Nat.add_zero]
    rw [h1]
    have h2 : (tps r (acc ++ [tpStep acc o])).take acc.length = acc := by
      apply List.ext_getElem?
      intro n
      rw [List.getElem?_take]
      split
      · rename_i hn
        have h3 := tps_acc r (acc ++ [tpStep acc o]) n (by simp; omega)
        have hl : n < (tps r (acc ++ [tpStep acc o])).length := by rw [tps_len]; simp; omega
        rw [List.getD_eq_getElem?_getD, List.getElem?_eq_getElem hl, List.getD_eq_getElem?_getD, List.getElem?_append_left hn, List.getElem?_eq_getElem hn] at h3
        simp only [Option.getD_some] at h3
        rw [List.getElem?_eq_getElem hl, List.getElem?_eq_getElem hn, h3]
      · rename_i hn
        rw [List.getElem?_eq_none (by omega)]
    rw [h2]
    simp
  | o :: r, acc, i + 1, o', h => by
    have := tps_at r (acc ++ [tpStep acc o]) i o' (by simpa using h)
    simp only [List.length_append, List.length_cons, List.length_nil] at this
    simp only [tps]
    rw [show acc.length + (i + 1) = acc.length + (0 + 1) + i from by omega]
    exact this
theorem tpStep_bit {acc : List Nat} {k : Nat} : ∀ (es : List Edge) (s0 : Nat), (es.foldl (fun s e => if Region.binds .any e then s ||| 2 ^ e.on ||| acc.getD e.on 0 else s) s0).testBit k = true →
    s0.testBit k = true ∨ ∃ e ∈ es, Region.binds .any e = true ∧ (k = e.on ∨ (acc.getD e.on 0).testBit k = true)
  | [], s0, h => .inl h
  | e :: r, s0, h => by
    simp only [List.foldl_cons] at h
    rcases tpStep_bit r _ h with h' | ⟨e', he', hb⟩
    · split at h'
      · rename_i hb
        rw [Nat.testBit_or, testBit_or_pow] at h'
        simp only [Bool.or_eq_true, decide_eq_true_eq] at h'
        rcases h' with (h' | h') | h'
        · exact .inl h'
        · exact .inr ⟨e, List.mem_cons_self .., hb, .inl h'⟩
        · exact .inr ⟨e, List.mem_cons_self .., hb, .inr h'⟩
      · exact .inl h'
    · exact .inr ⟨e', List.mem_cons_of_mem _ he', hb⟩
theorem mapM_some {α β : Type} {f : α → Option β} : ∀ {l : List α} {r : List β}, l.mapM f = some r → r.length = l.length ∧ ∀ (i : Nat) (a : α), l[i]? = some a → ∃ b, r[i]? = some b ∧ f a = some b
  | [], r, h => by simp only [List.mapM_nil, pure, Option.some.injEq] at h; subst h; simp
  | a :: l, r, h => by
    simp only [List.mapM_cons, bind, pure, Option.bind_eq_some_iff, Option.some.injEq] at h
    obtain ⟨b, hb, r', hr', rfl⟩ := h
    have ih := mapM_some hr'
    refine ⟨by simp [ih.1], fun i x hx => ?_⟩
    cases i with
    | zero => simp only [List.getElem?_cons_zero, Option.some.injEq] at hx ⊢; subst hx; exact ⟨b, rfl, hb⟩
    | succ i => simp only [List.getElem?_cons_succ] at hx ⊢; exact ih.2 i x hx
theorem regOK_of {P : Program} {N : Nat} {ops : Array Oper} {nd : List Nd} {tp : List Nat} (hnd : (List.range ops.size).mapM (ndOf P ops) = some nd) (hd : dstB ops N = true)
    (hap : ∀ i j oi oj, i < j → ops[i]? = some oi → ops[j]? = some oj → (tp.getD j 0).testBit i = true ∨ oi.apart ops oj = true) : RegOK P ops nd tp (nd.map (·.ro.quiet)) N := by
  obtain ⟨hlen, hall⟩ := mapM_some hnd
  refine ⟨hap, fun i hi => ?_, fun i d hi hd' => ?_, fun i d hd' => ?_⟩
  · obtain ⟨b, hb, hf⟩ := hall i i (by rw [List.getElem?_range hi])
    exact ⟨b, hb, hf⟩
  · simp [hd']
  · have hi : i < ops.size := by
      unfold dstAt at hd'
      obtain ⟨o, ho, _⟩ := Option.bind_eq_some_iff.1 hd'
      exact (Array.getElem?_eq_some_iff.1 ho).1
    have := List.all_eq_true.1 hd i (by simpa using hi)
    simpa [hd'] using this
theorem fri_start {ops : Array Oper} {N : Nat} {a : Act} (hN : a.tmps.size = N) (hd : a.defers = []) (vals : Nat → Value) :
    Fri ops (fun t => a.tmps.getD t undef) N (Array.replicate ops.size false) a vals := by
  refine ⟨hN, hd, fun t => ?_⟩
  have : ∀ n, lkW ops (Array.replicate ops.size false) t n = none := by
    intro n
    induction n with
    | zero => rfl
    | succ k ih =>
      simp only [lkW, ih]
      rw [if_neg]
      rintro ⟨_, h⟩
      simp only [Array.getD_eq_getD_getElem?, Array.getElem?_replicate] at h
      split at h <;> simp at h
  rw [this]; rfl
/-- a region, whichever way it is ordered -/
theorem region_sound {P : Program} {N : Nat} {ops : Array Oper} {draw : Bool} {live : List Nat} {et : ET} (h : regTree P N ops draw live = some et) (hm : P.follows .mixedOrders = true)
    {K : Env → Mem → Prop} {w : World} {a : Act} {Q : Exit → Act → World → Prop} {id : Nat} (hN : a.tmps.size = N) (hdf : a.defers = [])
    (hQ : ∀ a' w' L', Side w w' → a'.tmps.size = N → a'.defers = [] → (∀ p ∈ L', a'.tmps.getD p.1 undef = p.2) → K L' (absM w') → Q .normal a' w')
    (het : etP P (fun t => a.tmps.getD t undef) et [] (absM w) K) : (Code.region id ops draw).wp P Q a w := by
  unfold regTree at h
  obtain ⟨nd, hnd, h⟩ := Option.bind_eq_some_iff.1 h
  split at h
  case isFalse => cases h
  rename_i hdst
  have houts : ∀ p ∈ live.map fun t => (t, src ops ops.size (.tmp t)), p.2 = src ops ops.size (.tmp p.1) := fun p hp => by
    obtain ⟨t, _, rfl⟩ := List.mem_map.1 hp; rfl
  cases draw with
  | true =>
    simp only [if_true] at h
    split at h
    case isFalse => cases h
    rename_i hc
    simp only [Option.some.injEq] at h
    subst h
    simp only [Bool.and_eq_true] at hc
    obtain ⟨hback, hap⟩ := hc
    have ok := regOK_of (P := P) (N := N) (tp := tps ops.toList []) hnd hdst (fun i j oi oj hij hi hj => by
      have hj' : j < ops.size := (Array.getElem?_eq_some_iff.1 hj).1
      have := List.all_eq_true.1 (List.all_eq_true.1 hap j (by simpa using hj')) i (by simpa using hij)
      simp only [hi, hj, Bool.or_eq_true] at this
      exact this)
    have dr : RegDr ops (tps ops.toList []) := by
      constructor
      · intro i o ho e he hb
        have hi : i < ops.size := (Array.getElem?_eq_some_iff.1 ho).1
        have := List.all_eq_true.1 hback i (by simpa using hi)
        simp only [ho] at this
        have := List.all_eq_true.1 this e (by simpa using he)
        simpa [hb] using this
      · intro i o ho k hk
        have h1 := tps_at ops.toList [] i o (by simpa using ho)
        simp only [List.length_nil, Nat.zero_add] at h1
        rw [h1] at hk
        rcases tpStep_bit _ _ hk with h2 | ⟨e, he, hb, h2⟩
        · simp at h2
        · refine ⟨e, by simpa using he, hb, h2.imp (fun h => h) fun h3 => ?_⟩
          rw [List.getD_eq_getElem?_getD, List.getElem?_take] at h3
          split at h3
          · rw [List.getD_eq_getElem?_getD]; exact h3
          · simp at h3
    refine wp_region_any hm ?_
    have c0 : Can ops (fun t => a.tmps.getD t undef) (tps ops.toList []) 0 [] (fun _ => undef) := ⟨fun i hi => by simp at hi, fun i hi => by simp at hi, fun i x hi => by simp at hi⟩
    obtain ⟨f', D', σ', vals', c', hq', het', _, hn'⟩ := advance ok _ 0 [] (fun _ => undef) (absM w) c0 het
    refine sim ok dr houts (w0 := w) hQ ops.size _ a _ f' D' σ' vals' ⟨List.range ops.size, by simp, fun i hi _ => by simpa using hi⟩ (side_drew w _ (Nat.le_succ _)) ?_ het'
    have hlist : ∀ i, (Array.replicate ops.size false).getD i false = false := fun i => by
      simp only [Array.getD_eq_getD_getElem?, Array.getElem?_replicate]
      split <;> rfl
    refine ⟨c', hq', by simp, (fun j hj => by rw [hlist] at hj; cases hj), (fun j hj => by rw [hlist] at hj; cases hj), fun i hi hD _ => ?_, fun i hi hD _ => ?_, fri_start hN hdf vals'⟩
    · rcases hn' i hD with h0 | hqf
      · simp at h0
      · obtain ⟨d, hd, hndo⟩ := ok.hnd i hi
        obtain ⟨o, ro, xl, g, ho, hr, _, _, hde⟩ := nd_parts hndo
        rw [List.getD_eq_getElem?_getD, ok.hqt i d hi hd, hde]
        simpa using (hqf o ro xl ho hr).1
    · rcases hn' i hD with h0 | hqf
      · simp at h0
      · exact hqf
  | false =>
    simp only [Bool.false_eq_true, if_false, Option.some.injEq] at h
    subst h
    let tp := (List.range ops.size).map fun i => 2 ^ i - 1
    have htp : ∀ j, j < ops.size → tp.getD j 0 = 2 ^ j - 1 := fun j hj => by
      simp only [tp, List.getD_eq_getElem?_getD, List.getElem?_map, List.getElem?_range hj]; rfl
    have ok := regOK_of (P := P) (N := N) (tp := tp) hnd hdst (fun i j oi oj hij hi hj => .inl (by
      have hj' : j < ops.size := (Array.getElem?_eq_some_iff.1 hj).1
      rw [htp j hj', testBit_ones]; simpa using hij))
    refine wp_region_list ?_
    have c0 : Can ops (fun t => a.tmps.getD t undef) tp (2 ^ 0 - 1) [] (fun _ => undef) := ⟨fun i hi => by simp at hi, fun i hi => by simp at hi, fun i x hi => by simp at hi⟩
    have := seq_sim ok (fun i hi k hk => by rw [htp i hi, testBit_ones] at hk; simpa using hk) houts (w0 := w) hQ ops.size 0 a w [] (fun _ => undef) (by simp) (by
      have := (mapM_some hnd).1; simpa using this) (Side.rfl' w) hN hdf c0 (fun t => rfl) (by simpa using het)
    simpa using this
/-! ### slots that are looked at -/
def X.used : X → List Nat
  | .slot t => [t]
  | _ => []
def gdUsed : Gd → List Nat
  | some (x, _) => x.used
  | none => []
def argsUsed (l : List X) : List Nat := l.flatMap X.used
def ET.used : ET → List Nat
  | .out outs => outs.flatMap fun p => p.2.used
  | .fail | .tt => []
  | .q _ _ args g k => argsUsed args ++ gdUsed g ++ k.used
  | .x _ _ args g rc k => argsUsed args ++ gdUsed g ++ (rc.flatMap fun r => argsUsed r.2.2.1 ++ gdUsed r.2.2.2) ++ k.used
  | .both a b => a.used ++ b.used
section congr
variable {L L' : Nat → Value}
theorem ev_congr {x : X} (h : ∀ t ∈ x.used, L t = L' t) (σ : Env) : x.ev L σ = x.ev L' σ := by
  cases x <;> first | rfl | exact h _ (List.mem_singleton.2 rfl)
theorem map_ev_congr {l : List X} (h : ∀ t ∈ argsUsed l, L t = L' t) (σ : Env) : l.map (X.ev L σ) = l.map (X.ev L' σ) :=
  List.map_congr_left fun x hx => ev_congr (fun t ht => h t (List.mem_flatMap.2 ⟨x, hx, ht⟩)) σ
theorem gP_congr {g : Gd} (h : ∀ t ∈ gdUsed g, L t = L' t) {σ : Env} {y n y' n' : Prop} (hy : y → y') (hn : n → n') (hh : gP L σ g y n) : gP L' σ g y' n' := by
  cases g with
  | none => exact hy hh
  | some xw =>
    obtain ⟨x, w⟩ := xw
    simp only [gP] at hh ⊢
    rw [ev_congr (L := L) (L' := L') h σ] at hh
    exact ⟨fun e => hy (hh.1 e), fun e => hn (hh.2 e)⟩
theorem rcP_congr {σ : Env} {m : Mem} : ∀ {l : List (Nat × RO × List X × Gd)}, (∀ t ∈ l.flatMap (fun r => argsUsed r.2.2.1 ++ gdUsed r.2.2.2), L t = L' t) → rcP L σ m l → rcP L' σ m l
  | [], _, h => h
  | (i, ro, args, g) :: r, hu, h => by
    simp only [List.flatMap_cons, List.mem_append] at hu
    simp only [rcP] at h ⊢
    rw [map_ev_congr (L := L) (L' := L') (fun t ht => hu t (.inl (.inl ht))) σ] at h
    exact ⟨gP_congr (fun t ht => hu t (.inl (.inr ht))) (fun h => h) (fun h => h) h.1, rcP_congr (fun t ht => hu t (.inr ht)) h.2⟩
section
variable {K K' : Value → Mem → Prop} {m : Mem} (hk : ∀ v m, K v m → K' v m)
include hk
theorem st_mono {A : Prop} {o : Option Mem} {v : Value} (h : A ∧ ∃ m', o = some m' ∧ K v m') : A ∧ ∃ m', o = some m' ∧ K' v m' := ⟨h.1, h.2.elim fun m' h2 => ⟨m', h2.1, hk _ _ h2.2⟩⟩
theorem mup_mono {ag : Bool} {ks : List LK} {r : Option Nat} {k v : Value} (h : ∃ b, r = some b ∧ mupP ag ks m K b k v) : ∃ b, r = some b ∧ mupP ag ks m K' b k v := by
  obtain ⟨b, e, h1, es, cl, hm, o, hf, h⟩ := h
  refine ⟨b, e, h1, es, cl, hm, o, hf, ?_⟩
  revert h
  cases o with
  | none => exact hk _ _
  | some iv => exact hk _ _
theorem dlt_mono {ag : Bool} {ks : List LK} {r : Option Nat} {k : Value} (h : dltP ag ks m K k r) : dltP ag ks m K' k r := by
  cases r with
  | none => exact ⟨h.1, hk _ _ h.2⟩
  | some r =>
    obtain ⟨h1, es, cl, hm, o, hf, h⟩ := h
    refine ⟨h1, es, cl, hm, o, hf, ?_⟩
    revert h
    cases o with
    | none => exact hk _ _
    | some iv => exact hk _ _
theorem clr_mono {zero : List Value} {a : Option Addr} {n c : Nat} (h : clrP zero m K a n c) : clrP zero m K' a n c := by
  cases a with
  | none => exact hk _ _ h
  | some a => obtain ⟨m', e, h⟩ := h; exact ⟨m', e, hk _ _ h⟩
theorem mrk_mono {a : Option Addr} {n c : Nat} (h : mrkP m K a n c) : mrkP m K' a n c := by
  cases a with
  | none => exact h
  | some a => obtain ⟨arr, t, fr, h1, h2, h3⟩ := h; exact ⟨arr, t, fr, h1, h2, hk _ _ h3⟩
theorem clrm_mono {r : Option Nat} (h : clrmP m K r) : clrmP m K' r := by
  cases r with
  | none => exact hk _ _ h
  | some r => obtain ⟨es, cl, hm, h⟩ := h; exact ⟨es, cl, hm, hk _ _ h⟩
theorem rng_mono {r : Option Nat} (h : rngP m K r) : rngP m K' r := by
  cases r with
  | none => exact fun b hb => hk _ _ (h b hb)
  | some r => obtain ⟨es, cl, hm, h⟩ := h; exact ⟨es, cl, hm, fun b hb => hk _ _ (h b hb)⟩
theorem nxt_mono {a : Addr} (h : nxtP m K a) : nxtP m K' a := by
  obtain ⟨h0, r, s, se, l, hm, h⟩ := h
  refine ⟨h0, r, s, se, l, hm, ?_⟩
  revert h
  cases r with
  | none => exact hk _ _
  | some b => exact fun ⟨es, cl, h1, h2, h3, h4⟩ => ⟨es, cl, h1, h2, fun h => hk _ _ (h3 h), fun e he hs => hk _ _ (h4 e he hs)⟩
end
theorem xs_mono {P : Program} {ro : RO} {args : List Value} {m : Mem} {K K' : Value → Mem → Prop} (hk : ∀ v m, K v m → K' v m) (h : xs P ro args m K) : xs P ro args m K' := by
  unfold xs at *
  split at h <;> first
    | exact h.elim
    | (first
         | exact MC.mono h hk
         | exact fun b hb => hk _ _ (h b hb)
         | exact sP_mono (fun _ _ _ => mrk_mono hk) h
         | exact sP_mono (fun _ _ _ h => iP_mono (fun _ ⟨h0, h1, h2⟩ => ⟨h0, h1, appP_mono hk h2⟩) h) h
         | (obtain ⟨l, hl, h⟩ := h; exact ⟨l, hl, fun b hb => hk _ _ (h b hb)⟩)
         | exact pP_mono (fun a => st_mono hk) h
         | exact iP_mono (fun n => iP_mono fun c ⟨h0, h1, h2, h3, h4⟩ => ⟨h0, h1, h2, h3, fun b hb => hk _ _ (h4 b hb)⟩) h
         | (refine sP_mono (fun base n cap => sP_mono fun b k c hh => ?_) h; obtain ⟨news, e, hh⟩ := hh; exact ⟨news, e, appP_mono hk hh⟩)
         | exact sP_mono (fun base n cap => zP_mono fun s h => appP_mono hk h) h
         | (refine sP_mono (fun base n cap => sP_mono fun b k c hh => ?_) h; obtain ⟨cells, e, hh⟩ := hh; refine ⟨cells, e, ?_⟩
            cases base with
            | none => exact hk _ _ hh
            | some a => obtain ⟨m', e', h'⟩ := hh; exact ⟨m', e', hk _ _ h'⟩)
         | exact fP_mono (fun f a c h => ⟨h.1, MC.mono h.2 hk⟩) h
         | exact mP_mono (fun r => mup_mono hk) h
         | exact mP_mono (fun r => dlt_mono hk) h
         | exact sP_mono (fun a n c => clr_mono hk) h
         | exact mP_mono (fun r => clrm_mono hk) h
         | exact mP_mono (fun r => rng_mono hk) h
         | exact pP_mono (fun a => nxt_mono hk) h
         | exact zP_mono (fun s h c b hc hb => hk _ _ (h c b hc hb)) h
         | exact iP_mono (fun n ⟨h0, h1, h2⟩ => ⟨h0, h1, fun c l b g1 g2 g3 g4 => hk _ _ (h2 c l b g1 g2 g3 g4)⟩) h
         | (obtain ⟨p, e1, h⟩ := qP_inv h; subst e1
            refine iP_mono (fun n ⟨h0, h1, h2⟩ => ⟨h0, h1, ?_⟩) h
            split at h2
            · rename_i hz; rw [if_pos hz]; exact hk _ _ h2
            · rename_i hz; rw [if_neg hz]
              obtain ⟨b, arr, fr, e1, e2, e3, bs, e4, e5⟩ := h2
              exact ⟨b, arr, fr, e1, e2, e3, bs, e4, fun fr' => hk _ _ (e5 fr')⟩))
theorem etP_congr {P : Program} {K : Env → Mem → Prop} : ∀ (et : ET) (σ : Env) (m : Mem), (∀ t ∈ et.used, L t = L' t) → etP P L et σ m K → etP P L' et σ m K
  | .out outs, σ, m, hu, h => by
    simp only [etP] at h ⊢
    have : (outs.map fun p => (p.1, p.2.ev L σ)) = outs.map fun p => (p.1, p.2.ev L' σ) := List.map_congr_left fun p hp => by
      rw [ev_congr (L := L) (L' := L') (fun t ht => hu t (List.mem_flatMap.2 ⟨p, hp, ht⟩)) σ]
    rw [this] at h; exact h
  | .fail, _, _, _, h => h
  | .tt, _, _, _, h => h
  | .q i ro args g k, σ, m, hu, h => by
    simp only [ET.used, List.mem_append] at hu
    simp only [etP] at h ⊢
    rw [map_ev_congr (L := L) (L' := L') (fun t ht => hu t (.inl (.inl ht))) σ] at h
    refine gP_congr (fun t ht => hu t (.inl (.inr ht))) ?_ ?_ h
    · rintro ⟨v, hv, hk⟩; exact ⟨v, hv, etP_congr k _ m (fun t ht => hu t (.inr ht)) hk⟩
    · exact etP_congr k _ m (fun t ht => hu t (.inr ht))
  | .x i ro args g rc k, σ, m, hu, h => by
    simp only [ET.used, List.mem_append] at hu
    simp only [etP] at h ⊢
    rw [map_ev_congr (L := L) (L' := L') (fun t ht => hu t (.inl (.inl (.inl ht)))) σ] at h
    refine gP_congr (fun t ht => hu t (.inl (.inl (.inr ht)))) ?_ ?_ h
    · exact xs_mono fun v m' ⟨h1, h2⟩ => ⟨rcP_congr (fun t ht => hu t (.inl (.inr ht))) h1, etP_congr k _ m' (fun t ht => hu t (.inr ht)) h2⟩
    · exact etP_congr k _ m (fun t ht => hu t (.inr ht))
  | .both a b, σ, m, hu, h => by
    simp only [ET.used, List.mem_append] at hu
    exact ⟨etP_congr a σ m (fun t ht => hu t (.inl ht)) h.1, etP_congr b σ m (fun t ht => hu t (.inr ht)) h.2⟩
end congr
end Go.Fw
/-! Bodies of functions. -/
namespace Go.Fw
inductive NC where
  | skip
  | reg (et : ET) (ins : List Nat)
  | seq (a b : NC)
  | cond (x : X) (a b : NC)
  | block (id : Nat) (c : NC)
  | loop (ks : List Nat) (c : NC)
  | exit (id : Nat)
  | ret
  deriving Inhabited
/-! ### sets of slots -/
def addS (t : Nat) : List Nat → List Nat
  | [] => [t]
  | u :: r => if t < u then t :: u :: r else if t = u then u :: r else u :: addS t r
def unS (a b : List Nat) : List Nat := a.foldl (fun s t => addS t s) b
def delS (t : Nat) (l : List Nat) : List Nat := l.filter (· != t)
def tmpsOf (l : List Operand) : List Nat := l.filterMap fun | .tmp t => some t | _ => none
def opLive (ops : Array Oper) (o : Oper) (lo : List Nat) : List Nat :=
  unS (o.looksAt ops) (match o.dst with | some d => delS d lo | none => lo)
def liveIn (rets : List Nat) : Code → List Nat → List (Nat × List Nat) → List Nat
  | .skip, lo, _ => lo
  | .region _ ops _, lo, _ => ops.toList.foldr (opLive ops) lo
  | .seq a b, lo, ex => liveIn rets a (liveIn rets b lo ex) ex
  | .cond c a b, lo, ex => unS (tmpsOf [c]) (unS (liveIn rets a lo ex) (liveIn rets b lo ex))
  | .block id c, lo, ex => liveIn rets c lo ((id, lo) :: ex)
  | .loop c, _, ex => liveIn rets c [] ex
  | .exit id, _, ex => (ex.lookup id).getD []
  | .ret, _, _ => rets
  | _, lo, _ => lo
def comp (P : Program) (N : Nat) (rets : List Nat) : Code → List Nat → List (Nat × List Nat) → Option (NC × List Nat)
  | .skip, lo, _ => some (.skip, lo)
  | .region _ ops draw, lo, _ => (regTree P N ops draw lo).map fun et => (.reg et (unS et.used []), unS et.used [])
  | .seq a b, lo, ex => (comp P N rets b lo ex).bind fun rb => (comp P N rets a rb.2 ex).map fun ra => (.seq ra.1 rb.1, ra.2)
  | .cond c a b, lo, ex => (comp P N rets a lo ex).bind fun ra => (comp P N rets b lo ex).bind fun rb =>
    match c with
    | .tmp t => some (.cond (.slot t) ra.1 rb.1, addS t (unS ra.2 rb.2))
    | .const v => some (.cond (.const v) ra.1 rb.1, unS ra.2 rb.2)
    | _ => none
  | .block id c, lo, ex => (comp P N rets c lo ((id, lo) :: ex)).map fun rc => (.block id rc.1, rc.2)
  | .loop c, _, ex => (comp P N rets c (liveIn rets c [] ex) ex).map fun rc => (.loop (liveIn rets c [] ex) rc.1, liveIn rets c [] ex)
  | .exit id, _, ex => some (.exit id, (ex.lookup id).getD [])
  | .ret, _, _ => some (.ret, rets)
  | .refuse _, _, _ => some (.reg .fail [], [])
  | _, _, _ => none
def hasAll (L : Env) (ks : List Nat) : Bool := ks.all L.has
def only (L : Env) (ks : List Nat) : Env := ks.map fun k => (k, L.get k)
def thenN (next : Env → Mem → Prop) (Q : Exit → Env → Mem → Prop) : Exit → Env → Mem → Prop
  | .normal, L, m => next L m
  | e, L, m => Q e L m
def blockN (id : Nat) (Q : Exit → Env → Mem → Prop) : Exit → Env → Mem → Prop
  | .exit id', L, m => if id' = id then Q .normal L m else Q (.exit id') L m
  | e, L, m => Q e L m
def roundN (ks : List Nat) (I : Nat → Env → Mem → Prop) (n : Nat) (Q : Exit → Env → Mem → Prop) : Exit → Env → Mem → Prop
  | .normal, L, m => hasAll L ks = true ∧ ∃ n', n' < n ∧ I n' (only L ks) m
  | e, L, m => Q e L m
def bP (t : Bool) (A B : Prop) : Prop := (t = true → A) ∧ (t = false → B)
def condP (v : Value) (A B : Prop) : Prop := ∃ t, v = .bool t ∧ bP t A B
def loopP (ks : List Nat) (body : (Exit → Env → Mem → Prop) → Env → Mem → Prop) (Q : Exit → Env → Mem → Prop) (L : Env) (m : Mem) : Prop :=
  hasAll L ks = true ∧ ∃ I : Nat → Env → Mem → Prop, (∃ n, I n (only L ks) m) ∧ ∀ n L m, I n L m → body (roundN ks I n Q) L m
def wpN (P : Program) : NC → (Exit → Env → Mem → Prop) → Env → Mem → Prop
  | .skip, Q, L, m => Q .normal L m
  | .reg et ins, Q, L, m => hasAll L ins = true ∧ etP P L.get et [] m fun L' m' => Q .normal L' m'
  | .seq a b, Q, L, m => wpN P a (thenN (wpN P b Q) Q) L m
  | .cond x a b, Q, L, m => hasAll L x.used = true ∧ condP (x.ev L.get []) (wpN P a Q L m) (wpN P b Q L m)
  | .block id c, Q, L, m => wpN P c (blockN id Q) L m
  | .loop ks c, Q, L, m => loopP ks (wpN P c) Q L m
  | .exit id, Q, L, m => Q (.exit id) L m
  | .ret, Q, L, m => Q .ret L m
def Knows (a : Act) (L : Env) : Prop := ∀ t, L.has t = true → a.tmps.getD t undef = L.get t
theorem knows_pairs {a : Act} {L : Env} (h : ∀ p ∈ L, a.tmps.getD p.1 undef = p.2) : Knows a L := by
  induction L with
  | nil => intro t ht; simp [Env.has] at ht
  | cons p r ih =>
    obtain ⟨j, v⟩ := p
    intro t ht
    simp only [Env.get]
    by_cases e : t = j
    · subst e; rw [if_pos rfl]; exact h _ (List.mem_cons_self ..)
    · rw [if_neg e]
      simp only [Env.has, Bool.or_eq_true, beq_iff_eq, e, false_or] at ht
      exact ih (fun p hp => h p (List.mem_cons_of_mem _ hp)) t ht
theorem knows_only {a : Act} {L : Env} {ks : List Nat} (h : Knows a L) (hk : hasAll L ks = true) : Knows a (only L ks) := by
  apply knows_pairs
  intro p hp
  obtain ⟨k, hk', rfl⟩ := List.mem_map.1 hp
  exact h k (List.all_eq_true.1 hk k hk')
/-- what stands behind a piece of code, as the model asks it -/
def QQ (N : Nat) (w0 : World) (Q : Exit → Env → Mem → Prop) (e : Exit) (a : Act) (w : World) : Prop :=
  a.tmps.size = N ∧ a.defers = [] ∧ Side w0 w ∧ ∃ L, Knows a L ∧ Q e L (absM w)
theorem mem_addS {t u : Nat} : ∀ {l : List Nat}, u ∈ addS t l ↔ u = t ∨ u ∈ l
  | [] => by simp [addS]
  | x :: r => by
    simp only [addS]
    split
    · simp
    · split
      · rename_i h; subst h; simp
      · simp only [List.mem_cons, mem_addS (l := r)]
        constructor
        · rintro (h | h | h) <;> simp [h]
        · rintro (h | h | h) <;> simp [h]
theorem mem_unS {u : Nat} : ∀ {a b : List Nat}, u ∈ unS a b ↔ u ∈ a ∨ u ∈ b
  | [], b => by simp [unS]
  | x :: r, b => by
    have := mem_unS (u := u) (a := r) (b := addS x b)
    simp only [unS, List.foldl_cons] at this ⊢
    rw [this, mem_addS]
    simp only [List.mem_cons]
    constructor
    · rintro (h | h | h) <;> simp [h]
    · rintro ((h | h) | h) <;> simp [h]
theorem comp_sound {P : Program} {N : Nat} {rets : List Nat} (hm : P.follows .mixedOrders = true) : ∀ (c : Code) (lo : List Nat) (ex : List (Nat × List Nat)) (nc : NC) (li : List Nat),
    comp P N rets c lo ex = some (nc, li) → ∀ (Q : Exit → Env → Mem → Prop) (w0 w : World) (a : Act) (L : Env), a.tmps.size = N → a.defers = [] → Side w0 w → Knows a L → wpN P nc Q L (absM w) → c.wp P (QQ N w0 Q) a w := by
  intro c
  induction c with
  | skip =>
    intro lo ex nc li h Q w0 w a L hN hd hs hk hw
    simp only [comp, Option.some.injEq, Prod.mk.injEq] at h
    obtain ⟨rfl, rfl⟩ := h
    exact wp_skip ⟨hN, hd, hs, L, hk, hw⟩
  | region id ops draw =>
    intro lo ex nc li h Q w0 w a L hN hd hs hk hw
    simp only [comp] at h
    obtain ⟨et, het, h⟩ := Option.map_eq_some_iff.1 h
    obtain ⟨rfl, rfl⟩ := Prod.mk.injEq .. ▸ h
    obtain ⟨hins, hw⟩ := hw
    refine region_sound het hm (K := fun L' m' => Q .normal L' m') hN hd (fun a' w' L' hs' hN' hd' hp hK => ⟨hN', hd', hs.trans hs', L', knows_pairs hp, hK⟩) ?_
    refine etP_congr et [] (absM w) (fun t ht => ?_) hw
    have := List.all_eq_true.1 hins t (mem_unS.2 (.inl ht))
    exact (hk t this).symm
  | seq x y ihx ihy =>
    intro lo ex nc li h Q w0 w a L hN hd hs hk hw
    simp only [comp] at h
    obtain ⟨⟨nb, lb⟩, hb, h⟩ := Option.bind_eq_some_iff.1 h
    obtain ⟨⟨na, la⟩, ha, h⟩ := Option.map_eq_some_iff.1 h
    obtain ⟨rfl, rfl⟩ := Prod.mk.injEq .. ▸ h
    refine wp_seq (wp_mono (ihx _ _ _ _ ha _ w0 w a L hN hd hs hk hw) ?_)
    intro e a' w' ⟨hN', hd', hs', L', hk', hq⟩
    cases e with
    | normal => exact ihy _ _ _ _ hb Q w0 w' a' L' hN' hd' hs' hk' hq
    | _ => exact ⟨hN', hd', hs', L', hk', hq⟩
  | cond c x y ihx ihy =>
    intro lo ex nc li h Q w0 w a L hN hd hs hk hw
    simp only [comp] at h
    obtain ⟨⟨na, la⟩, ha, h⟩ := Option.bind_eq_some_iff.1 h
    obtain ⟨⟨nb, lb⟩, hb, h⟩ := Option.bind_eq_some_iff.1 h
    have key : ∀ xx : X, hasAll L xx.used = true → condP (xx.ev L.get []) (wpN P na Q L (absM w)) (wpN P nb Q L (absM w)) → a.eval c = xx.ev L.get [] → (Code.cond c x y).wp P (QQ N w0 Q) a w := by
      rintro xx - ⟨t, ht, hb'⟩ he
      refine wp_cond_split (t := t) (he.trans ht) (fun e => ?_) (fun e => ?_)
      · exact ihx _ _ _ _ ha Q w0 w a L hN hd hs hk (hb'.1 e)
      · exact ihy _ _ _ _ hb Q w0 w a L hN hd hs hk (hb'.2 e)
    cases c with
    | tmp t =>
      simp only [Option.some.injEq, Prod.mk.injEq] at h
      obtain ⟨rfl, rfl⟩ := h
      refine key _ hw.1 hw.2 ?_
      have h1 : L.has t = true := List.all_eq_true.1 hw.1 t (by simp [X.used])
      exact hk t h1
    | const v =>
      simp only [Option.some.injEq, Prod.mk.injEq] at h
      obtain ⟨rfl, rfl⟩ := h
      exact key _ hw.1 hw.2 rfl
    | global g => simp at h
    | func g => simp at h
  | block id x ih =>
    intro lo ex nc li h Q w0 w a L hN hd hs hk hw
    simp only [comp] at h
    obtain ⟨⟨na, la⟩, ha, h⟩ := Option.map_eq_some_iff.1 h
    obtain ⟨rfl, rfl⟩ := Prod.mk.injEq .. ▸ h
    refine wp_block (wp_mono (ih _ _ _ _ ha _ w0 w a L hN hd hs hk hw) ?_)
    intro e a' w' ⟨hN', hd', hs', L', hk', hq⟩
    cases e with
    | exit id' =>
      simp only [blockN] at hq
      simp only [Exit.inBlock]
      split
      · rename_i e; rw [if_pos e] at hq; exact ⟨hN', hd', hs', L', hk', hq⟩
      · rename_i e; rw [if_neg e] at hq; exact ⟨hN', hd', hs', L', hk', hq⟩
    | _ => exact ⟨hN', hd', hs', L', hk', hq⟩
  | loop x ih =>
    intro lo ex nc li h Q w0 w a L hN hd hs hk hw
    simp only [comp] at h
    obtain ⟨⟨na, la⟩, ha, h⟩ := Option.map_eq_some_iff.1 h
    obtain ⟨rfl, rfl⟩ := Prod.mk.injEq .. ▸ h
    obtain ⟨hall, I, ⟨n0, hI0⟩, hround⟩ := hw
    refine wp_loop_ghost (fun n a w => a.tmps.size = N ∧ a.defers = [] ∧ Side w0 w ∧ ∃ L, Knows a L ∧ I n L (absM w)) n0 ⟨hN, hd, hs, _, knows_only hk hall, hI0⟩ ?_
    rintro n a1 w1 ⟨hN1, hd1, hs1, L1, hk1, hI1⟩
    refine wp_mono (ih _ _ _ _ ha _ w0 w1 a1 L1 hN1 hd1 hs1 hk1 (hround n L1 _ hI1)) ?_
    intro e a' w' ⟨hN', hd', hs', L', hk', hq⟩
    cases e with
    | normal =>
      obtain ⟨hall', n', hlt, hI'⟩ := hq
      exact ⟨n', hlt, hN', hd', hs', _, knows_only hk' hall', hI'⟩
    | _ => exact ⟨hN', hd', hs', L', hk', hq⟩
  | exit id =>
    intro lo ex nc li h Q w0 w a L hN hd hs hk hw
    simp only [comp, Option.some.injEq, Prod.mk.injEq] at h
    obtain ⟨rfl, rfl⟩ := h
    exact wp_exit ⟨hN, hd, hs, L, hk, hw⟩
  | ret =>
    intro lo ex nc li h Q w0 w a L hN hd hs hk hw
    simp only [comp, Option.some.injEq, Prod.mk.injEq] at h
    obtain ⟨rfl, rfl⟩ := h
    exact wp_ret ⟨hN, hd, hs, L, hk, hw⟩
  | refuse why =>
    intro lo ex nc li h Q w0 w a L hN hd hs hk hw
    simp only [comp, Option.some.injEq, Prod.mk.injEq] at h
    obtain ⟨rfl, rfl⟩ := h
    exact hw.2.elim
  | _ => intro lo ex nc li h; simp [comp] at h
/-! ### a function -/
inductive RV where
  | slot (t : Nat)
  | cell (t : Nat)
  | cells (t n : Nat)
  deriving Inhabited
def RV.slotOf : RV → Nat
  | .slot t | .cell t | .cells t _ => t
def rvOf (P : Program) : ResultVar → Option RV
  | .tmp t => some (.slot t)
  | .cell a t => if plainT P t then some (.cell a) else if aggT P t then (P.info? t).map fun i => .cells a i.size else none
def RV.val (L : Env) (m : Mem) : RV → Option Value
  | .slot t => some (L.get t)
  | .cell t => rd .ld [L.get t] m
  | .cells t n => rd (.lda n) [L.get t] m
def valsOf (L : Env) (m : Mem) : List RV → Option (List Value)
  | [] => some []
  | r :: l => (r.val L m).bind fun v => (valsOf L m l).map (v :: ·)
def tupleV : List Value → Value
  | [v] => v
  | l => .tuple l.toArray
def zipP : Nat → List Value → Env
  | _, [] => []
  | i, v :: r => (i, v) :: zipP (i + 1) r
def retP (rvs : List RV) (R : Value → Mem → Prop) : Exit → Env → Mem → Prop
  | .normal, L, m | .ret, L, m => hasAll L (rvs.map RV.slotOf) = true ∧ ∃ vs, valsOf L m rvs = some vs ∧ R (tupleV vs) m
  | _, _, _ => False
structure FN where
  code : NC
  rvs : List RV
  deriving Inhabited
def compF (P : Program) (fn : Func) : Option FN :=
  (fn.results.toList.mapM (rvOf P)).bind fun rvs => (fn.body).bind fun c =>
    (comp P fn.ntmps (unS (rvs.map RV.slotOf) []) c (unS (rvs.map RV.slotOf) []) []).map fun r => ⟨r.1, rvs⟩
theorem zipP_get : ∀ (l : List Value) (i t : Nat), (zipP i l).has t = true → i ≤ t ∧ l[t - i]? = some ((zipP i l).get t)
  | [], i, t, h => by simp [zipP, Env.has] at h
  | v :: r, i, t, h => by
    simp only [zipP, Env.has, Bool.or_eq_true, beq_iff_eq] at h
    simp only [zipP, Env.get]
    by_cases e : t = i
    · subst e; simp
    · rw [if_neg e]
      have := zipP_get r (i + 1) t (h.resolve_left e)
      refine ⟨by omega, ?_⟩
      rw [show t - i = (t - (i + 1)) + 1 from by omega, List.getElem?_cons_succ]
      exact this.2
def rvSem (tmps : Array Value) : ResultVar → Sem Value
  | .tmp t => pure (tmps.getD t undef)
  | .cell a t => do loadVar t (← asAddr (tmps.getD a undef))
theorem run_rv {P : Program} {rv : ResultVar} {r : RV} (h : rvOf P rv = some r) {tmps : Array Value} {L : Env} {w : World} (hk : L.has r.slotOf = true → tmps.getD r.slotOf undef = L.get r.slotOf) (hh : L.has r.slotOf = true)
    {v : Value} (hv : r.val L (absM w) = some v) :
    (rvSem tmps rv).run P w = .ok v w := by
  unfold rvSem
  cases rv with
  | tmp t =>
    simp only [rvOf, Option.some.injEq] at h; subst h
    simp only [RV.val, Option.some.injEq] at hv; subst hv
    simp only [RV.slotOf] at hk hh
    simp [hk hh]
  | cell a t =>
    simp only [rvOf] at h
    split at h
    · rename_i hp
      simp only [Option.some.injEq] at h; subst h
      simp only [RV.slotOf] at hk hh
      obtain ⟨ad, hx, e⟩ := p1_inv hv
      simp [hk hh, hx, asAddr, loadVar, isAgg_plain hp, run_load_cell (m := absM w) rfl e, -run_load]
    · split at h
      · rename_i hp
        obtain ⟨i, hi, rfl⟩ := Option.map_eq_some_iff.1 h
        simp only [RV.slotOf] at hk hh
        obtain ⟨ad, hx, e⟩ := p1_inv hv
        obtain ⟨l, hl, rfl⟩ := Option.map_eq_some_iff.1 e
        simp [hk hh, hx, asAddr, loadVar, isAgg_agg hp, run_sizeOf' hi, loadCells, run_loadCellsFrom (m := absM w) rfl ad _ _ _ _ hl]
      · cases h
theorem run_rvs {P : Program} {tmps : Array Value} {L : Env} {w : World} : ∀ (rs : List ResultVar) (rvs : List RV), rs.mapM (rvOf P) = some rvs → (∀ t, L.has t = true → tmps.getD t undef = L.get t) → hasAll L (rvs.map RV.slotOf) = true →
    ∀ vs, valsOf L (absM w) rvs = some vs → (rs.mapM (rvSem tmps)).run P w = .ok vs w
  | [], rvs, h, _, _, vs, hv => by
    simp only [List.mapM_nil, pure, Option.some.injEq] at h; subst h
    simp only [valsOf, Option.some.injEq] at hv; subst hv
    rfl
  | rv :: rs, rvs, h, hk, hh, vs, hv => by
    simp only [List.mapM_cons, bind, pure, Option.bind_eq_some_iff, Option.some.injEq] at h
    obtain ⟨r, hr, l, hl, rfl⟩ := h
    simp only [valsOf] at hv
    obtain ⟨v, hv1, hv⟩ := Option.bind_eq_some_iff.1 hv
    obtain ⟨vs', hv2, rfl⟩ := Option.map_eq_some_iff.1 hv
    simp only [hasAll, List.map_cons, List.all_cons, Bool.and_eq_true] at hh
    have h1 := run_rv hr (tmps := tmps) (hk r.slotOf) hh.1 hv1
    have h2 := run_rvs rs l hl hk hh.2 vs' hv2
    simp only [List.mapM_cons, Sem.run_bind, h1, Result.andThen_ok, h2, Sem.run_pure]
theorem run_results {P : Program} {fn : Func} {rvs : List RV} (h : fn.results.toList.mapM (rvOf P) = some rvs) {tmps : Array Value} {L : Env} {w : World} (hk : ∀ t, L.has t = true → tmps.getD t undef = L.get t)
    (hh : hasAll L (rvs.map RV.slotOf) = true) {vs : List Value} (hv : valsOf L (absM w) rvs = some vs) : (results fn tmps).run P w = .ok (tupleV vs) w := by
  have hres : results fn tmps = (do let vs ← fn.results.mapM (rvSem tmps); pure (if h : vs.size = 1 then vs[0] else .tuple vs)) := rfl
  rw [hres]
  have := run_rvs (P := P) (w := w) fn.results.toList rvs h hk hh vs hv
  rw [Array.mapM_eq_mapM_toList]
  simp only [Sem.run_bind, Sem.run_map, this, Result.andThen_ok, Sem.run_pure]
  congr 1
  match vs with
  | [] => rfl
  | [v] => rfl
  | v :: u :: r => simp [tupleV]
/-- **A FUNCTION's CONTRACT, OUT OF ITS BODY.** -/
theorem MC_of {P : Program} {f : Nat} {fn : Func} {F : FN} (hf : P.funcs[f]? = some fn) (hc : compF P fn = some F) (hm : P.follows .mixedOrders = true) {args : List Value} {m : Mem} {R : Value → Mem → Prop}
    (hn : args.length ≤ fn.ntmps) (h : wpN P F.code (retP F.rvs R) (zipP 0 args) m) : MC P f args m R := by
  unfold compF at hc
  obtain ⟨rvs, hrv, hc⟩ := Option.bind_eq_some_iff.1 hc
  obtain ⟨c, hb, hc⟩ := Option.bind_eq_some_iff.1 hc
  obtain ⟨⟨nc, li⟩, hcomp, rfl⟩ := Option.map_eq_some_iff.1 hc
  intro w hw
  subst hw
  refine calls_of_wp hf hb ?_
  refine wp_mono (comp_sound hm c _ _ nc li hcomp _ w w _ (zipP 0 args) ?_ rfl (Side.rfl' w) ?_ h) ?_
  · simp; omega
  · intro t ht
    obtain ⟨_, h1⟩ := zipP_get args 0 t ht
    have hlt : t < args.length := (List.getElem?_eq_some_iff.1 h1).1
    simp only [Nat.sub_zero] at h1
    simp only [Array.getD_eq_getD_getElem?]
    rw [Array.getElem?_append_left (by simpa using hlt)]
    simp [h1]
  · intro e a' w' ⟨hN', hd', hs', L', hk', hq⟩
    cases e with
    | normal =>
      obtain ⟨hh, vs, hv, hR⟩ := hq
      exact ⟨hd', _, run_results hrv hk' hh hv, _, rfl, hs', hR⟩
    | ret =>
      obtain ⟨hh, vs, hv, hR⟩ := hq
      exact ⟨hd', _, run_results hrv hk' hh hv, _, rfl, hs', hR⟩
    | _ => exact hq.elim
end Go.Fw
