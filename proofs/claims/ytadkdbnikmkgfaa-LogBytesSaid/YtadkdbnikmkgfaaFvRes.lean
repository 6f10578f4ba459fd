import Derived.Test.YtadkdbnikmkgfaaFvMapR
/-! From the model's operation to the resolved one, and that it is right. -/
namespace Go.Fw


def zeroOf (P : Program) (t : TypeId) : Option (Value × Nat) := (P.info? t).bind fun i => i.zero.map fun z => (z, i.size)
def placesOf (P : Program) (ps : List Nat) (fields : Array Field) : Option (List (Nat × Nat)) :=
  ps.mapM fun i => (fields[i]?).bind fun f => (P.info? f.type).map fun j => (f.offset, j.size)
def fieldsIn (P : Program) (fields : Array Field) : Bool := fields.all fun f => (P.info? f.type).isSome

def resBin (P : Program) (op : BinOp) (t : TypeId) (x y : Operand) : Option (RO × List Operand) :=
  match op, P.underlying t with
  | .add, some (.int _) | .sub, some (.int _) | .mul, some (.int _) => some (.iar op, [x, y])
  | .quo, some (.int _) | .rem, some (.int _) => some (.idv op, [x, y])
  | .and, some (.int _) | .or, some (.int _) | .xor, some (.int _) => some (.ibt op, [x, y])
  | .shl, some (.int _) | .shr, some (.int _) => some (.ish op, [x, y])
  | .eql, some (.int _) | .neq, some (.int _) | .lss, some (.int _) | .leq, some (.int _) | .gtr, some (.int _) | .geq, some (.int _) => some (.icm op, [x, y])
  | .eql, some .bool => some (.beq false, [x, y])
  | .neq, some .bool => some (.beq true, [x, y])
  | .eql, some (.pointer _) => some (.eqp false, [x, y])
  | .neq, some (.pointer _) => some (.eqp true, [x, y])
  | .eql, some (.slice _) => some (.eqs false, [x, y])
  | .neq, some (.slice _) => some (.eqs true, [x, y])
  | .eql, some (.map _ _) => some (.eqm false, [x, y])
  | .neq, some (.map _ _) => some (.eqm true, [x, y])
  | .add, some .string | .eql, some .string | .neq, some .string | .lss, some .string | .leq, some .string | .gtr, some .string | .geq, some .string => some (.str op, [x, y])
  | .eql, some (.struct _) | .eql, some (.array _ _) => if P.eqGuardType P.depth t then none else (leavesOf P 10000 t).map fun ks => (.eqc false ks, [x, y])
  | .neq, some (.struct _) | .neq, some (.array _ _) => if P.eqGuardType P.depth t then none else (leavesOf P 10000 t).map fun ks => (.eqc true ks, [x, y])
  | _, _ => none

def resSlice (P : Program) (t : TypeId) (x : Operand) (lo hi : Option Operand) : Option (RO × List Operand) :=
  match P.underlying t with
  | some (.slice e) => (P.info? e).map fun i => (.slc i.size lo.isSome hi.isSome, x :: lo.toList ++ hi.toList)
  | some .string => some (.slcs lo.isSome hi.isSome, x :: lo.toList ++ hi.toList)
  | some (.pointer arr) =>
    match P.underlying arr with
    | some (.array n e) => (P.info? e).map fun i => (.sla n i.size lo.isSome hi.isSome, x :: lo.toList ++ hi.toList)
    | _ => none
  | _ => none
def resSlice3 (P : Program) (t : TypeId) (x : Operand) (lo hi mx : Option Operand) : Option (RO × List Operand) :=
  match P.underlying t, hi, mx with
  | some (.slice e), some hi, some mx => (P.info? e).map fun i => (.slc3 i.size lo.isSome, x :: lo.toList ++ [hi, mx])
  | _, _, _ => none
def resKey (P : Program) (t : TypeId) : Option (Bool × List LK × TypeId) :=
  match P.underlying t with
  | some (.map k e) => (leavesOf P 10000 k).map fun ks => (aggT P k, ks, e)
  | _ => none
def resLookup (P : Program) (t : TypeId) (x i : Operand) (ok : Bool) : Option (RO × List Operand) :=
  (resKey P t).bind fun k => (zeroOf P k.2.2).map fun z => (.lkp k.1 k.2.1 z.1 ok, [x, i])

def isU8 : Option Value → Bool
  | some (.int .u8 0) => true
  | _ => false
def resBuild (P : Program) (t : TypeId) (parts : List (Nat × Operand)) : Option (RO × List Operand) :=
  (zeroOf P t).bind fun z =>
    match P.underlying t with
    | some (.struct fields) => if fieldsIn P fields then (placesOf P (parts.map (·.1)) fields).map fun ps => (.bld z.1.cells.toList ps, parts.map (·.2)) else none
    | some (.array _ e) => (P.info? e).map fun i => (.bld z.1.cells.toList (parts.map fun p => (p.1 * i.size, i.size)), parts.map (·.2))
    | _ => none
def resBuildSlice (P : Program) (t : TypeId) (len : Nat) (parts : List (Nat × Operand)) : Option (RO × List Operand) :=
  match P.underlying t with
  | some (.slice e) => (P.info? e).bind fun i => (i.zero).bind fun z =>
    if z.cells.size = i.size ∧ 0 < i.size ∧ len * i.size ≤ 16777216 then some (.bsl e len (List.replicate len z.cells.toList).flatten (parts.map fun p => (p.1 * i.size, i.size)), parts.map (·.2)) else none
  | _ => none

def resLen (P : Program) (argTypes : Array TypeId) (xs : List Operand) : Option (RO × List Operand) :=
  match (argTypes[0]?).bind P.underlying with
  | some (.slice _) => some (.len, xs)
  | some .string => some (.lenz, xs)
  | some (.map _ _) => some (.lenm, xs)
  | _ => none
def resApp (P : Program) (argTypes : Array TypeId) (xs : List Operand) : Option (RO × List Operand) :=
  match (argTypes[0]?).bind P.underlying with
  | some (.slice e) =>
    match (argTypes[1]?).bind P.underlying with
    | some (.slice _) => (P.info? e).bind fun i => (i.zero).bind fun z => if z.cells.size = i.size ∧ 0 < i.size then some (.app e i.size i.bytes z.cells.toList, xs) else none
    | some .string => (P.info? e).bind fun i => if i.size = 1 ∧ i.bytes = 1 ∧ isU8 i.zero then some (.apps e, xs) else none
    | _ => none
  | _ => none
def resCopy (P : Program) (argTypes : Array TypeId) (xs : List Operand) : Option (RO × List Operand) :=
  match (argTypes[0]?).bind P.underlying with
  | some (.slice e) => (P.info? e).map fun i => (.cpy i.size, xs)
  | _ => none
def resDelete (P : Program) (argTypes : Array TypeId) (xs : List Operand) : Option (RO × List Operand) :=
  ((argTypes[0]?).bind (resKey P)).map fun k => (.dlt k.1 k.2.1, xs)
def resClear (P : Program) (argTypes : Array TypeId) (xs : List Operand) : Option (RO × List Operand) :=
  match (argTypes[0]?).bind P.underlying with
  | some (.slice e) => (zeroOf P e).map fun z => (.clr z.1.cells.toList, xs)
  | some (.map _ _) => some (.clrm, xs)
  | _ => none
def two (ro : RO) (xs : List Operand) : Option (RO × List Operand) := if xs.length = 2 then some (ro, xs) else none
def resBuiltin (P : Program) (b : Builtin) (argTypes : Array TypeId) (xs : List Operand) : Option (RO × List Operand) :=
  match b with
  | .len => resLen P argTypes xs
  | .append => resApp P argTypes xs
  | .copy => resCopy P argTypes xs
  | .min => some (.mn, xs)
  | .max => some (.mx, xs)
  | .delete => resDelete P argTypes xs
  | .clear => resClear P argTypes xs
  | _ => none
def resVal (P : Program) (f : Operand) (xs : List Operand) : Option (RO × List Operand) :=
  match f with
  | .func f => (P.funcs[f]?).bind fun fn => if fn.body.isSome && fn.name != "runtime.NumGoroutine" then some (.call f, xs) else none
  | .tmp t => some (.callv, .tmp t :: xs)
  | _ => none
def resCall (P : Program) (c : Call) (xs : List Operand) : Option (RO × List Operand) :=
  match c.callee with
  | .value f => resVal P f xs
  | .builtin b => resBuiltin P b c.argTypes xs
  | .invoke _ _ => none
def resUn (P : Program) (op : UnOp) (t : TypeId) (x : Operand) : Option (RO × List Operand) :=
  match op with
  | .not => some (.not, [x])
  | .neg => if (match P.underlying t with | some (.int _) => true | _ => false) then some (.neg, [x]) else none
  | .xor => if (match P.underlying t with | some (.int _) => true | _ => false) then some (.cpl, [x]) else none
  | _ => none

def res0 (P : Program) (o : Oper) : Option (RO × List Operand) :=
  match o.op with
  | .move x | .assign x => some (.mv, [x])
  | .pick c a b => some (.pick, [c, a, b])
  | .nilCheck x => some (.nilck, [x])
  | .fieldAddr s x f =>
    match P.underlying s with
    | some (.struct fields) => (fields[f]?).bind fun fl => (P.info? fl.type).bind fun i => if i.size = 0 then none else some (.fld fl.offset, [x])
    | _ => none
  | .indexAddr t x i =>
    match P.underlying t with
    | some (.slice e) => (P.info? e).map fun j => (.ixs j.size, [x, i])
    | some (.array n e) => (P.info? e).map fun j => (.ixa n j.size, [x, i])
    | _ => none
  | .load t x => if plainT P t then some (.ld, [x]) else if aggT P t then (P.info? t).map fun i => (.lda i.size, [x]) else none
  | .store t x v => (P.info? t).map fun i => (.st i.size, [x, v])
  | .alloc t => (zeroOf P t).map fun z => (.alc z.1.cells.toList t, [])
  | .box t v => some (.box t, [v])
  | .binOp op t x y _ => resBin P op t x y
  | .unOp op t x => resUn P op t x
  | .convert s d x =>
    match P.underlying s, P.underlying d with
    | some (.int _), some (.int k) => some (.conv k, [x])
    | some .string, some .string => some (.zid, [x])
    | some (.slice e), some .string => if P.underlying e matches some (.int .u8) then some (.b2s, [x]) else none
    | some .string, some (.slice e) => if P.underlying e matches some (.int .u8) then some (.s2b e, [x]) else none
    | _, _ => none
  | .field t x f =>
    match P.underlying t with
    | some (.struct fields) => (fields[f]?).bind fun fl => if plainT P fl.type then some (.prt fl.offset, [x]) else if aggT P fl.type then (P.info? fl.type).map fun i => (.prta fl.offset i.size, [x]) else none
    | _ => none
  | .extract x i => some (.ext i, [x])
  | .makeSlice t l c =>
    match P.underlying t with
    | some (.slice e) => (P.info? e).bind fun i => (i.zero).bind fun z => if z.cells.size = i.size ∧ 0 < i.size then some (.mks e i.bytes z.cells.toList, [l, c]) else none
    | _ => none
  | .slice t x lo hi mx => if mx.isNone then resSlice P t x lo hi else resSlice3 P t x lo hi mx
  | .index t x i =>
    match P.underlying t with
    | some (.array n e) => if plainT P e then (P.info? e).map fun j => (.idx n j.size, [x, i]) else if aggT P e then (P.info? e).map fun j => (.idxa n j.size, [x, i]) else none
    | some .string => some (.idxs, [x, i])
    | _ => none
  | .makeFunc fn first captured => some (.mkf fn first.size, first.toList ++ captured.toList)
  | .makeMap t r => if r.isNone then some (.mkm, []) else none
  | .lookup t x i ok => resLookup P t x i ok
  | .mapUpdate t m k x | .insert t m k x => (resKey P t).map fun z => (.mup z.1 z.2.1, [m, k, x])
  | .range t x => match P.underlying t with | some (.map _ _) => some (.rng, [x]) | _ => none
  | .next it isString => if isString then none else some (.nxt, [it])
  | .entry it => some (.ent, [it])
  | .build t parts => resBuild P t parts.toList
  | .buildSlice t len parts => resBuildSlice P t len parts.toList
  | .call c => resCall P c c.args.toList
  | _ => none
def res (P : Program) (o : Oper) : Option (RO × List Operand) := some ((res0 P o).getD (.bad, []))
theorem res_cases {P : Program} {o : Oper} {r : RO × List Operand} (h : res P o = some r) : res0 P o = some r ∨ r = (.bad, []) := by
  unfold res at h
  cases h0 : res0 P o with
  | none => rw [h0] at h; exact .inr (by simpa using h.symm)
  | some x => rw [h0] at h; exact .inl (by simpa using h)

section sound
variable {P : Program} {ro : RO} {xl : List Operand} {m : Mem} {w : World} {ρ : Operand → Value}

theorem run_load_cell {a : Addr} {v : Value} (hw : absM w = m) (h : cell m a = some v) : (load a).run P w = .ok v w := by
  subst hw; rw [cell_abs] at h; simp [h]

theorem run_loadCellsFrom (hw : absM w = m) (a : Addr) : ∀ (n i : Nat) (acc : Array Value) (l : List Value), ldCells m a i n = some l →
    (loadCellsFrom a i n acc).run P w = .ok (acc ++ l.toArray) w
  | 0, i, acc, l, h => by simp only [ldCells, Option.some.injEq] at h; subst h; simp [loadCellsFrom]
  | n + 1, i, acc, l, h => by
    simp only [ldCells, Option.bind_eq_some_iff, Option.map_eq_some_iff] at h
    obtain ⟨v, hv, r, hr, rfl⟩ := h
    simp only [loadCellsFrom, Sem.run_bind, run_load_cell hw hv, Result.andThen_ok, run_loadCellsFrom hw a n (i + 1) _ r hr]
    simp

theorem spl_eq : ∀ (off : Nat) (vs cs : List Value), spl off vs cs = if off + vs.length ≤ cs.length then some (cs.take off ++ vs ++ cs.drop (off + vs.length)) else none
  | 0, [], cs => by simp [spl]
  | 0, v :: vs, [] => by simp [spl]
  | 0, v :: vs, c :: cs => by
    simp only [spl, spl_eq 0 vs cs, Nat.zero_add, List.length_cons, Nat.add_le_add_iff_right]
    split <;> simp
  | n + 1, vs, [] => by simp only [spl, List.length_nil]; rw [if_neg (by omega)]
  | n + 1, vs, c :: cs => by
    simp only [spl, spl_eq n vs cs, List.length_cons]
    by_cases h : n + vs.length ≤ cs.length
    · rw [if_pos h, if_pos (by omega)]
      simp [show n + 1 + vs.length = (n + vs.length) + 1 from by omega]
    · rw [if_neg h, if_neg (by omega)]; rfl

theorem foldl_set (off : Nat) : ∀ (vs : List Value) (j : Nat) (cs : Array Value), off + j + vs.length ≤ cs.size →
    ((vs.zipIdx j).foldl (fun cs (c, j) => cs.setIfInBounds (off + j) c) cs).toList = cs.toList.take (off + j) ++ vs ++ cs.toList.drop (off + j + vs.length)
  | [], j, cs, h => by simp
  | v :: vs, j, cs, h => by
    simp only [List.length_cons] at h
    simp only [List.zipIdx_cons, List.foldl_cons]
    have ih := foldl_set off vs (j + 1) (cs.setIfInBounds (off + j) v) (by simp; omega)
    rw [ih]
    have hlt : off + j < cs.toList.length := by simp; omega
    simp only [Array.toList_setIfInBounds]
    rw [List.take_set, List.drop_set_of_lt (by omega), show off + (j + 1) = off + j + 1 from by omega, List.take_succ_eq_append_getElem (by simpa using hlt)]
    rw [List.set_append_right _ _ (by simp; omega)]
    simp only [List.length_take, Nat.min_eq_left (Nat.le_of_lt hlt), Nat.sub_self, List.set_cons_zero, List.append_assoc, List.cons_append, List.nil_append, List.length_cons]
    rw [show off + j + 1 + vs.length = off + j + (vs.length + 1) from by omega]

theorem fill_lay (place : Nat → Option (Nat × Nat)) : ∀ (parts : List (Nat × Value)) (ps : List (Nat × Nat)) (cells : Array Value) (l : List Value),
    (parts.map fun p => place p.1) = ps.map some → lay cells.toList ps (parts.map (·.2)) = some l → Instr.fill place cells parts = some l.toArray
  | [], ps, cells, l, hp, h => by
    cases ps with
    | nil => simp only [lay, List.map_nil, Option.some.injEq] at h; subst h; simp [Instr.fill]
    | cons p r => simp at hp
  | (i, v) :: r, ps, cells, l, hp, h => by
    cases ps with
    | nil => simp at hp
    | cons p ps =>
      obtain ⟨off, size⟩ := p
      simp only [List.map_cons, List.cons.injEq] at hp
      simp only [List.map_cons, lay] at h
      split at h
      case isFalse => cases h
      rename_i hsz
      rw [vcl_eq, Array.length_toList] at hsz
      obtain ⟨cs, hcs, hl⟩ := Option.bind_eq_some_iff.1 h
      rw [spl_eq, vcl_eq] at hcs
      split at hcs
      case isFalse => cases hcs
      rename_i hle
      simp only [Option.some.injEq] at hcs
      simp only [Array.length_toList] at hle
      simp only [Instr.fill, hp.1]
      rw [if_neg (by simp [hsz]; omega)]
      have h1 := foldl_set off v.cells.toList 0 cells (by simpa using hle)
      have h2 : (v.cells.zipIdx.foldl (fun cs (c, j) => cs.setIfInBounds (off + j) c) cells) = cs.toArray := by
        apply Array.ext'
        rw [← hcs, ← Array.foldl_toList]
        simpa using h1
      rw [h2]
      exact fill_lay place r ps cs.toArray l hp.2 hl

theorem some_pair {α β : Type} {a c : α} {b d : β} (h : some (a, b) = some (c, d)) : a = c ∧ b = d := by simpa using h

theorem i2_inv {f : IntKind → Int → Int → Option Value} {x y v : Value} (h : i2 f x y = some v) : ∃ k a b, x = .int k a ∧ y = .int k b ∧ f k a b = some v := by
  cases x <;> cases y <;> simp only [i2, reduceCtorEq] at h
  split at h
  · rename_i e; subst e; exact ⟨_, _, _, rfl, rfl, h⟩
  · cases h
theorem j2_inv {f : IntKind → Int → Int → Option Value} {x y v : Value} (h : j2 f x y = some v) : ∃ k k' a b, x = .int k a ∧ y = .int k' b ∧ f k a b = some v := by
  cases x <;> cases y <;> simp only [j2, reduceCtorEq] at h
  exact ⟨_, _, _, _, rfl, rfl, h⟩
theorem i1_inv {f : IntKind → Int → Option Value} {x v : Value} (h : i1 f x = some v) : ∃ k a, x = .int k a ∧ f k a = some v := by
  cases x <;> simp only [i1, reduceCtorEq] at h
  exact ⟨_, _, rfl, h⟩
theorem b2_inv {f : Bool → Bool → Option Value} {x y v : Value} (h : b2 f x y = some v) : ∃ a b, x = .bool a ∧ y = .bool b ∧ f a b = some v := by
  cases x <;> cases y <;> simp only [b2, reduceCtorEq] at h
  exact ⟨_, _, rfl, rfl, h⟩
theorem b1_inv {f : Bool → Option Value} {x v : Value} (h : b1 f x = some v) : ∃ a, x = .bool a ∧ f a = some v := by
  cases x <;> simp only [b1, reduceCtorEq] at h
  exact ⟨_, rfl, h⟩
theorem p1_inv {f : Addr → Option Value} {x v : Value} (h : p1 f x = some v) : ∃ a, x = .pointer (some a) ∧ f a = some v := by
  unfold p1 at h
  split at h
  · exact ⟨_, rfl, h⟩
  · cases h
theorem g1_inv {f : Array Value → Option Value} {x v : Value} (h : g1 f x = some v) : ∃ a, x = .agg a ∧ f a = some v := by
  cases x <;> simp only [g1, reduceCtorEq] at h
  exact ⟨_, rfl, h⟩
theorem t1_inv {f : Array Value → Option Value} {x v : Value} (h : t1 f x = some v) : ∃ a, x = .tuple a ∧ f a = some v := by
  cases x <;> simp only [t1, reduceCtorEq] at h
  exact ⟨_, rfl, h⟩
theorem s1_inv {f : Option Addr → Nat → Nat → Option Value} {x v : Value} (h : s1 f x = some v) : ∃ a n c, x = .slice a n c ∧ f a n c = some v := by
  cases x <;> simp only [s1, reduceCtorEq] at h
  exact ⟨_, _, _, rfl, h⟩
theorem z1_inv {f : ByteArray → Option Value} {x v : Value} (h : z1 f x = some v) : ∃ a, x = .string a ∧ f a = some v := by
  cases x <;> simp only [z1, reduceCtorEq] at h
  exact ⟨_, rfl, h⟩
theorem eqp_inv {ng : Bool} {x y v : Value} (h : eqp ng x y = some v) : ∃ a, x = .pointer a ∧ y = .pointer none ∧ v = .bool (if ng then a.isSome else a.isNone) := by
  unfold eqp at h
  split at h
  · exact ⟨_, rfl, rfl, by simpa using h.symm⟩
  · cases h
theorem eqs_inv {ng : Bool} {x y v : Value} (h : eqs ng x y = some v) : ∃ a n c n' c', x = .slice a n c ∧ y = .slice none n' c' ∧ v = .bool (if ng then a.isSome else a.isNone) := by
  unfold eqs at h
  split at h
  · exact ⟨_, _, _, _, _, rfl, rfl, by simpa using h.symm⟩
  · cases h

theorem eqm_inv {ng : Bool} {x y v : Value} (h : eqm ng x y = some v) : ∃ a, x = .map a ∧ y = .map none ∧ v = .bool (if ng then a.isSome else a.isNone) := by
  unfold eqm at h
  split at h
  · exact ⟨_, rfl, rfl, by simpa using h.symm⟩
  · cases h
theorem z2_inv {f : ByteArray → ByteArray → Option Value} {x y v : Value} (h : z2 f x y = some v) : ∃ a b, x = .string a ∧ y = .string b ∧ f a b = some v := by
  cases x <;> cases y <;> simp only [z2, reduceCtorEq] at h
  exact ⟨_, _, rfl, rfl, h⟩
theorem equalIn_map {t k e : TypeId} (ht : P.underlying t = some (.map k e)) (d : Nat) (a : Option Nat) : (Op.equalIn (d + 1) t (.map a) (.map none)).run P w = .ok a.isNone w := by
  cases a <;> simp [Op.equalIn, run_underlying' ht]
theorem equalIn_bool {t : TypeId} (ht : P.underlying t = some .bool) (d : Nat) (a b : Bool) : (Op.equalIn (d + 1) t (.bool a) (.bool b)).run P w = .ok (a == b) w := by
  simp [Op.equalIn, run_underlying' ht]
theorem equalIn_ptr {t e : TypeId} (ht : P.underlying t = some (.pointer e)) (d : Nat) (a : Option Addr) : (Op.equalIn (d + 1) t (.pointer a) (.pointer none)).run P w = .ok a.isNone w := by
  cases a <;> simp [Op.equalIn, run_underlying' ht]
theorem equalIn_slice {t e : TypeId} (ht : P.underlying t = some (.slice e)) (d : Nat) (a : Option Addr) (n c n' c' : Nat) : (Op.equalIn (d + 1) t (.slice a n c) (.slice none n' c')).run P w = .ok a.isNone w := by
  cases a <;> simp [Op.equalIn, run_underlying' ht]
theorem equal_def {t : TypeId} {x y : Value} : Op.equal t x y = Op.equalIn (9999 + 1) t x y := rfl

/-- binary operations on numbers and bools -/
theorem bin_quiet {op : BinOp} {t : TypeId} {x y : Operand} (h : resBin P op t x y = some (ro, xl)) {v : Value} (hr : rd ro (xl.map ρ) m = some v) :
    (do eqGuard op t x y (ρ x) (ρ y); binOp op t (ρ x) (ρ y) : Sem Value).run P w = .ok v w := by
  have agg : ∀ (ng : Bool) (op : BinOp) (ks : List LK), (op = if ng then .neq else .eql) → aggT P t = true → leavesOf P 10000 t = some ks → P.eqGuardType P.depth t = false → rd (.eqc ng ks) [ρ x, ρ y] m = some v →
      (do eqGuard op t x y (ρ x) (ρ y); binOp op t (ρ x) (ρ y) : Sem Value).run P w = .ok v w := by
    intro ng op ks hop ha hl hg hr
    obtain ⟨xs, hx, hr⟩ := g1_inv hr
    obtain ⟨ys, hy, hr⟩ := g1_inv hr
    obtain ⟨b, hb, rfl⟩ := Option.map_eq_some_iff.1 hr
    rw [hx, hy]
    have h1 := eq_ok 10000 t ks hl w (.agg xs) (.agg ys) b (fun _ => ⟨_, _, rfl, rfl⟩) (fun hp => by
      rcases leaves_kind hl with ⟨_, ha', _⟩ | ⟨hp', _⟩
      · rw [ha] at ha'; cases ha'
      · rw [hp] at hp'; cases hp') hb
    subst hop
    cases ng
    · simp only [Bool.false_eq_true, if_false, Sem.run_bind, run_eqGuard_agg w .eql t x y xs ys hg, Result.andThen_ok, run_eql_struct, h1]
    · simp only [if_true, Sem.run_bind, run_eqGuard_agg w .neq t x y xs ys hg, Result.andThen_ok, run_neq_struct, h1]
  unfold resBin at h
  split at h <;> first
    | (cases h; done)
    | (rename_i hu
       split at h
       · cases h
       · rename_i hg
         obtain ⟨ks, hl, h⟩ := Option.map_eq_some_iff.1 h
         obtain ⟨rfl, rfl⟩ := Prod.mk.injEq .. ▸ h
         exact agg _ _ ks rfl (by simp [aggT, hu]) hl (by simpa using hg) hr)
    | (obtain ⟨rfl, rfl⟩ := some_pair h)
  all_goals simp only [List.map_cons, List.map_nil, rd, rdp, RO.reads] at hr
  all_goals generalize ρ x = a at *
  all_goals generalize ρ y = b at *
  all_goals first
    | (obtain ⟨k, i, j, rfl, rfl, e⟩ := i2_inv hr
       first
         | (simp only [Option.some.injEq] at e; subst e; simp [eqGuard, binOp, Op.intArith, Op.intBits, Op.intCmp]; done)
         | (split at e
            · cases e
            · rename_i hz
              simp only [Option.some.injEq] at e; subst e; simp [eqGuard, binOp, Op.intDiv, hz]; done))
    | (obtain ⟨k, k', i, j, rfl, rfl, e⟩ := j2_inv hr
       split at e
       · cases e
       · rename_i hz
         simp only [Option.some.injEq] at e; subst e; simp [eqGuard, binOp, Op.shift, hz]; done)
    | (obtain ⟨i, j, rfl, rfl, e⟩ := b2_inv hr
       simp only [Option.some.injEq] at e; subst e
       cases i <;> cases j <;> simp [eqGuard, binOp, equal_def, equalIn_bool (P := P) (by assumption)] <;> done)
    | (obtain ⟨a, rfl, rfl, rfl⟩ := eqp_inv hr
       cases a <;> simp [eqGuard, binOp, equal_def, equalIn_ptr (P := P) (by assumption)] <;> done)
    | (obtain ⟨a, n, c, n', c', rfl, rfl, rfl⟩ := eqs_inv hr
       cases a <;> simp [eqGuard, binOp, equal_def, equalIn_slice (P := P) (by assumption)] <;> done)
    | (obtain ⟨a, rfl, rfl, rfl⟩ := eqm_inv hr
       cases a <;> simp [eqGuard, binOp, equal_def, equalIn_map (P := P) (by assumption)] <;> done)
    | (obtain ⟨a, b, rfl, rfl, e⟩ := z2_inv hr
       first
         | (simp only [Option.some.injEq] at e; subst e; simp [eqGuard, binOp, Op.stringOp, ByteArray.toList_eq]; done)
         | (split at e
            · rename_i hle
              simp only [Option.some.injEq] at e; subst e
              have h63 : ¬ (((a.size + b.size : Nat) : Int) > IntKind.i64.max) := by
                simp only [IntKind.max, IntKind.bits, IntKind.signed]; simp; omega
              have h1 : (Op.stringOp .add a b).run P w = .ok (.string (a ++ b)) w := by
                unfold Op.stringOp; simp only [if_neg h63]; rfl
              simp [eqGuard, binOp, h1]
            · cases e))

theorem run_sliceBound {y : Nat} {c : BoundsCode} {k : IntKind} {i : Int} (h0 : 0 ≤ i) (h1 : i ≤ y) : (Instr.sliceBound (.int k i) y c).run P w = .ok i.toNat w := by
  simp [Instr.sliceBound, asIntOf, h0, h1]


theorem cutS_inv {size : Nat} {a : Option Addr} {cap : Nat} {lo hi : Int} {v : Value} (h : cutS size a cap lo hi = some v) :
    0 ≤ lo ∧ lo ≤ hi ∧ hi ≤ cap ∧ v = .slice (if cap = lo.toNat then a else a.map (·.add (lo.toNat * size))) (hi.toNat - lo.toNat) (cap - lo.toNat) := by
  unfold cutS at h
  split at h
  · rename_i e; exact ⟨e.1, e.2.1, e.2.2, by simpa using h.symm⟩
  · cases h

theorem cutA_inv {size : Nat} {a : Addr} {cap : Nat} {lo hi : Int} {v : Value} (h : cutA size a cap lo hi = some v) :
    0 ≤ lo ∧ lo ≤ hi ∧ hi ≤ cap ∧ v = .slice (some (if cap = lo.toNat then a else a.add (lo.toNat * size))) (hi.toNat - lo.toNat) (cap - lo.toNat) := by
  unfold cutA at h
  split at h
  · rename_i e; exact ⟨e.1, e.2.1, e.2.2, by simpa using h.symm⟩
  · cases h
theorem cut3_inv {size : Nat} {a : Option Addr} {cap : Nat} {lo hi mx : Int} {v : Value} (h : cut3 size a cap lo hi mx = some v) :
    0 ≤ lo ∧ lo ≤ hi ∧ hi ≤ mx ∧ mx ≤ cap ∧ v = .slice (if mx.toNat = lo.toNat then a else a.map (·.add (lo.toNat * size))) (hi.toNat - lo.toNat) (mx.toNat - lo.toNat) := by
  unfold cut3 at h
  split at h
  · rename_i e; exact ⟨e.1, e.2.1, e.2.2.1, e.2.2.2, by simpa using h.symm⟩
  · cases h
theorem cutZ_inv {s : ByteArray} {lo hi : Int} {v : Value} (h : cutZ s lo hi = some v) : 0 ≤ lo ∧ lo ≤ hi ∧ hi ≤ s.size ∧ v = .string (s.extract lo.toNat hi.toNat) := by
  unfold cutZ cutB at h
  split at h
  · rename_i e; exact ⟨e.1, e.2.1, e.2.2, by simpa using h.symm⟩
  · cases h

theorem slice_quiet {t : TypeId} {x : Operand} {lo hi : Option Operand} (h : resSlice P t x lo hi = some (ro, xl)) {v : Value} (hr : rd ro (xl.map ρ) m = some v) :
    (Instr.sliceAt t (ρ x) (lo.map ρ) (hi.map ρ) none).run P w = .ok v w := by
  unfold resSlice at h
  split at h
  · rename_i e hu
    obtain ⟨i, hi', h⟩ := Option.map_eq_some_iff.1 h
    obtain ⟨rfl, rfl⟩ := Prod.mk.injEq .. ▸ h
    have hz := run_sizeOf' (P := P) (w := w) hi'
    cases lo <;> cases hi <;> simp only [Option.isSome, Option.toList_none, Option.toList_some, List.append_nil, List.cons_append, List.nil_append, List.map_cons, List.map_nil, rd, rdp, RO.reads] at hr
    all_goals obtain ⟨a, n, c, hx, e⟩ := s1_inv hr
    · obtain ⟨h0, h1, h2, rfl⟩ := cutS_inv e
      have h2' : n ≤ c := by omega
      simp [Instr.sliceAt, Instr.slice, run_underlying' hu, hx, Instr.sliceBounds, hz]
    · obtain ⟨k, hi, hy, e⟩ := i1_inv e
      obtain ⟨h0, h1, h2, rfl⟩ := cutS_inv e
      simp [Instr.sliceAt, Instr.slice, run_underlying' hu, hx, hy, Instr.sliceBounds, run_sliceBound h1 h2, hz]
    · obtain ⟨k, lo, hy, e⟩ := i1_inv e
      obtain ⟨h0, h1, h2, rfl⟩ := cutS_inv e
      simp [Instr.sliceAt, Instr.slice, run_underlying' hu, hx, hy, Instr.sliceBounds, run_sliceBound h0 h1, hz]
    · obtain ⟨k, k', lo, hi, hy, hy', e⟩ := j2_inv e
      obtain ⟨h0, h1, h2, rfl⟩ := cutS_inv e
      have h3 : lo ≤ (hi.toNat : Int) := by omega
      simp [Instr.sliceAt, Instr.slice, run_underlying' hu, hx, hy, hy', Instr.sliceBounds, run_sliceBound h0 h3, run_sliceBound (Int.le_trans h0 h1) h2, hz]
  · rename_i hu
    obtain ⟨rfl, rfl⟩ := some_pair h
    cases lo <;> cases hi <;> simp only [Option.isSome, Option.toList_none, Option.toList_some, List.append_nil, List.cons_append, List.nil_append, List.map_cons, List.map_nil, rd, rdp, RO.reads] at hr
    all_goals obtain ⟨s, hx, e⟩ := z1_inv hr
    · obtain ⟨h0, h1, h2, rfl⟩ := cutZ_inv e
      simp [Instr.sliceAt, Instr.slice, run_underlying' hu, hx, Instr.sliceBounds]
    · obtain ⟨k, hi, hy, e⟩ := i1_inv e
      obtain ⟨h0, h1, h2, rfl⟩ := cutZ_inv e
      simp [Instr.sliceAt, Instr.slice, run_underlying' hu, hx, hy, Instr.sliceBounds, run_sliceBound h1 h2]
    · obtain ⟨k, lo, hy, e⟩ := i1_inv e
      obtain ⟨h0, h1, h2, rfl⟩ := cutZ_inv e
      simp [Instr.sliceAt, Instr.slice, run_underlying' hu, hx, hy, Instr.sliceBounds, run_sliceBound h0 h1]
    · obtain ⟨k, k', lo, hi, hy, hy', e⟩ := j2_inv e
      obtain ⟨h0, h1, h2, rfl⟩ := cutZ_inv e
      have h3 : lo ≤ (hi.toNat : Int) := by omega
      simp [Instr.sliceAt, Instr.slice, run_underlying' hu, hx, hy, hy', Instr.sliceBounds, run_sliceBound h0 h3, run_sliceBound (Int.le_trans h0 h1) h2]
  · rename_i arr hu
    split at h
    case h_2 => cases h
    rename_i n0 e hu2
    obtain ⟨i, hi', h⟩ := Option.map_eq_some_iff.1 h
    obtain ⟨rfl, rfl⟩ := Prod.mk.injEq .. ▸ h
    have hz := run_sizeOf' (P := P) (w := w) hi'
    cases lo <;> cases hi <;> simp only [Option.isSome, Option.toList_none, Option.toList_some, List.append_nil, List.cons_append, List.nil_append, List.map_cons, List.map_nil, rd, rdp, RO.reads] at hr
    all_goals obtain ⟨a, hx, e⟩ := p1_inv hr
    · obtain ⟨h0, h1, h2, rfl⟩ := cutA_inv e
      simp [Instr.sliceAt, Instr.slice, run_underlying' hu, run_underlying' hu2, hx, Instr.sliceBounds, hz, asAddr, Instr.sureAddr]
    · obtain ⟨k, hi, hy, e⟩ := i1_inv e
      obtain ⟨h0, h1, h2, rfl⟩ := cutA_inv e
      simp [Instr.sliceAt, Instr.slice, run_underlying' hu, run_underlying' hu2, hx, hy, Instr.sliceBounds, run_sliceBound h1 h2, hz, asAddr, Instr.sureAddr]
    · obtain ⟨k, lo, hy, e⟩ := i1_inv e
      obtain ⟨h0, h1, h2, rfl⟩ := cutA_inv e
      simp [Instr.sliceAt, Instr.slice, run_underlying' hu, run_underlying' hu2, hx, hy, Instr.sliceBounds, run_sliceBound h0 h1, hz, asAddr, Instr.sureAddr]
    · obtain ⟨k, k', lo, hi, hy, hy', e⟩ := j2_inv e
      obtain ⟨h0, h1, h2, rfl⟩ := cutA_inv e
      have h3 : lo ≤ (hi.toNat : Int) := by omega
      simp [Instr.sliceAt, Instr.slice, run_underlying' hu, run_underlying' hu2, hx, hy, hy', Instr.sliceBounds, run_sliceBound h0 h3, run_sliceBound (Int.le_trans h0 h1) h2, hz, asAddr, Instr.sureAddr]
  · cases h

theorem slice3_quiet {t : TypeId} {x : Operand} {lo hi mx : Option Operand} (h : resSlice3 P t x lo hi mx = some (ro, xl)) {v : Value} (hr : rd ro (xl.map ρ) m = some v) :
    (Instr.sliceAt t (ρ x) (lo.map ρ) (hi.map ρ) (mx.map ρ)).run P w = .ok v w := by
  unfold resSlice3 at h
  split at h
  case h_2 => cases h
  rename_i e hi mx hu
  obtain ⟨i, hi', h⟩ := Option.map_eq_some_iff.1 h
  obtain ⟨rfl, rfl⟩ := Prod.mk.injEq .. ▸ h
  have hz := run_sizeOf' (P := P) (w := w) hi'
  cases lo <;> simp only [Option.isSome, Option.toList_none, Option.toList_some, List.cons_append, List.nil_append, List.map_cons, List.map_nil, rd, rdp, RO.reads] at hr
  all_goals obtain ⟨a, n, c, hx, e⟩ := s1_inv hr
  · obtain ⟨k, k', hi, mx, hy, hy', e⟩ := j2_inv e
    obtain ⟨h0, h1, h2, h3, rfl⟩ := cut3_inv e
    have h4 : hi ≤ (mx.toNat : Int) := by omega
    simp [Instr.sliceAt, Instr.slice, run_underlying' hu, hx, hy, hy', Instr.sliceBounds, run_sliceBound (Int.le_trans h1 h2) h3, run_sliceBound h1 h4, hz]
  · obtain ⟨k0, lo, hy0, e⟩ := i1_inv e
    obtain ⟨k, k', hi, mx, hy, hy', e⟩ := j2_inv e
    obtain ⟨h0, h1, h2, h3, rfl⟩ := cut3_inv e
    have h4 : hi ≤ (mx.toNat : Int) := by omega
    have h5 : lo ≤ (hi.toNat : Int) := by omega
    simp [Instr.sliceAt, Instr.slice, run_underlying' hu, hx, hy, hy', hy0, Instr.sliceBounds, run_sliceBound (Int.le_trans h0 (Int.le_trans h1 h2)) h3, run_sliceBound (Int.le_trans h0 h1) h4, run_sliceBound h0 h5, hz]

end sound
end Go.Fw
