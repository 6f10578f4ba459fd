import Derived.Test.YtbbddikmjkbglaaGreatDoorFw
import Derived.IntWalk
import Derived.KernelRfl
import Derived.SevenTiedAt
set_option linter.unusedVariables false
set_option linter.unusedSimpArgs false
/-! The rules by which a function's body is reckoned. -/
namespace Go.Fw
universe u
section
variable {P : Program} {L : Nat → Value} {E : Env} {σ : Env} {m : Mem} {K : Env → Mem → Prop} {Q : Exit → Env → Mem → Prop}

/-- a lock: what it names is not looked into by 'simp' (its type hangs on it) -/
structure Lk {α : Sort u} (a : α) : Type where
  mk ::

def bO (o : Option Value) (K : Value → Prop) (_ : Lk K) : Prop := bindO o K
theorem bO_some (v : Value) (K : Value → Prop) (l : Lk K) : bO (some v) K l = K v := by
  apply propext; exact ⟨fun ⟨u, e, h⟩ => (by cases e; exact h), fun h => ⟨v, rfl, h⟩⟩
def bM (o : Option Mem) (K : Mem → Prop) (_ : Lk K) : Prop := ∃ v, o = some v ∧ K v
theorem bM_some (v : Mem) (K : Mem → Prop) (l : Lk K) : bM (some v) K l = K v := by
  apply propext; exact ⟨fun ⟨u, e, h⟩ => (by cases e; exact h), fun h => ⟨v, rfl, h⟩⟩

/-- a guard: 'if want then' -/
def gQ (b : Option Bool) (want : Bool) (y n : Prop) (_ : Lk y) (_ : Lk n) : Prop := (b = some want → y) ∧ (b ≠ some want → n)
theorem gQ_tt (y n : Prop) (l : Lk y) (l' : Lk n) : gQ (some true) true y n l l' = y := by simp [gQ]
theorem gQ_ff (y n : Prop) (l : Lk y) (l' : Lk n) : gQ (some false) false y n l l' = y := by simp [gQ]
theorem gQ_tf (y n : Prop) (l : Lk y) (l' : Lk n) : gQ (some true) false y n l l' = n := by simp [gQ]
theorem gQ_ft (y n : Prop) (l : Lk y) (l' : Lk n) : gQ (some false) true y n l l' = n := by simp [gQ]
theorem gQ_none (w : Bool) (y n : Prop) (l : Lk y) (l' : Lk n) : gQ none w y n l l' = n := by simp [gQ]
theorem gQ_split {b : Bool} {w : Bool} {y n : Prop} {l : Lk y} {l' : Lk n} (h : b = w → y) (h' : b = !w → n) : gQ (some b) w y n l l' :=
  ⟨fun e => h (Option.some.inj e), fun e => h' (by cases b <;> cases w <;> simp_all)⟩

/-- what is handed on -/
def outE (E : Env) (m : Mem) (K : Env → Mem → Prop) (_ : Lk K) : Prop := K E m
theorem outE_def (l : Lk K) : outE E m K l = K E m := rfl
def evO (L : Nat → Value) (σ : Env) : List (Nat × X) → Env
  | [] => []
  | (t, x) :: r => (t, x.ev L σ) :: evO L σ r
theorem evO_eq (outs : List (Nat × X)) : (outs.map fun p => (p.1, p.2.ev L σ)) = evO L σ outs := by
  induction outs with
  | nil => rfl
  | cons p r ih => simp [evO, ih]
/-- arguments, reckoned first -/
def evA (L : Nat → Value) (σ : Env) : List X → List Value
  | [] => []
  | x :: r => x.ev L σ :: evA L σ r
theorem evA_eq (l : List X) : l.map (X.ev L σ) = evA L σ l := by
  induction l with
  | nil => rfl
  | cons p r ih => simp [evA, ih]

theorem etP_out (outs : List (Nat × X)) : etP P L (.out outs) σ m K = outE (evO L σ outs) m K ⟨⟩ := by simp only [etP, evO_eq]; rfl
theorem etP_q0 (i : Nat) (ro : RO) (args : List X) (k : ET) : etP P L (.q i ro args none k) σ m K = bO (rd ro (evA L σ args) m) (fun v => etP P L k ((i, v) :: σ) m K) ⟨⟩ := by
  simp only [etP, gP, evA_eq]; rfl
theorem etP_q1 (i : Nat) (ro : RO) (args : List X) (x : X) (w : Bool) (k : ET) : etP P L (.q i ro args (some (x, w)) k) σ m K =
    gQ (asB (x.ev L σ)) w (bO (rd ro (evA L σ args) m) (fun v => etP P L k ((i, v) :: σ) m K) ⟨⟩) (etP P L k ((i, undef) :: σ) m K) ⟨⟩ ⟨⟩ := by
  simp only [etP, gP, evA_eq, gQ]; rfl
/-- an operation that does something -/
def xsP (P : Program) (ro : RO) (args : List Value) (m : Mem) (K : Value → Mem → Prop) (_ : Lk K) : Prop := xs P ro args m K
/-- what is looked at again -/
def rcQ (A B : Prop) (_ : Lk B) : Prop := A ∧ B
theorem rcQ_true (B : Prop) (l : Lk B) : rcQ True B l = B := by simp [rcQ]
theorem rcQ_of {A B : Prop} (l : Lk B) (h : A) : rcQ A B l = B := by simp [rcQ, h]
theorem rcQ_intro {A B : Prop} {l : Lk B} (h : A) (h' : B) : rcQ A B l := ⟨h, h'⟩
theorem etP_x0 (i : Nat) (ro : RO) (args : List X) (rc : List (Nat × RO × List X × Gd)) (k : ET) : etP P L (.x i ro args none rc k) σ m K =
    xsP P ro (evA L σ args) m (fun v m' => rcQ (rcP L ((i, v) :: σ) m' rc) (etP P L k ((i, v) :: σ) m' K) ⟨⟩) ⟨⟩ := by
  simp only [etP, gP, evA_eq]; rfl
theorem etP_x1 (i : Nat) (ro : RO) (args : List X) (x : X) (w : Bool) (rc : List (Nat × RO × List X × Gd)) (k : ET) : etP P L (.x i ro args (some (x, w)) rc k) σ m K =
    gQ (asB (x.ev L σ)) w (xsP P ro (evA L σ args) m (fun v m' => rcQ (rcP L ((i, v) :: σ) m' rc) (etP P L k ((i, v) :: σ) m' K) ⟨⟩) ⟨⟩) (etP P L k ((i, undef) :: σ) m K) ⟨⟩ ⟨⟩ := by
  simp only [etP, gP, evA_eq, gQ]; rfl
def both (A B : Prop) (_ : Lk A) (_ : Lk B) : Prop := A ∧ B
theorem both_intro {A B : Prop} {l : Lk A} {l' : Lk B} (h : A) (h' : B) : both A B l l' := ⟨h, h'⟩
theorem etP_both (a b : ET) : etP P L (.both a b) σ m K = both (etP P L a σ m K) (etP P L b σ m K) ⟨⟩ ⟨⟩ := rfl
theorem etP_tt : etP P L .tt σ m K = True := rfl
theorem rcP_nil : rcP L σ m [] = True := rfl
theorem rcP_cons (i : Nat) (ro : RO) (args : List X) (r : List (Nat × RO × List X × Gd)) : rcP L σ m ((i, ro, args, none) :: r) = rcQ (rd ro (evA L σ args) m = some (σ.get i)) (rcP L σ m r) ⟨⟩ := by
  simp only [rcP, gP, evA_eq]; rfl
theorem rcP_cons1 (i : Nat) (ro : RO) (args : List X) (x : X) (w : Bool) (r : List (Nat × RO × List X × Gd)) : rcP L σ m ((i, ro, args, some (x, w)) :: r) =
    rcQ (gQ (asB (x.ev L σ)) w (rd ro (evA L σ args) m = some (σ.get i)) True ⟨⟩ ⟨⟩) (rcP L σ m r) ⟨⟩ := by
  simp only [rcP, gP, evA_eq, gQ, rcQ]

/-! code -/
theorem wpN_skip : wpN P .skip Q E m = Q .normal E m := rfl
theorem wpN_reg (et : ET) (ins : List Nat) : wpN P (.reg et ins) Q E m = rcQ (hasAll E ins = true) (etP P E.get et [] m fun L' m' => Q .normal L' m') ⟨⟩ := rfl
theorem wpN_seq (a b : NC) : wpN P (.seq a b) Q E m = wpN P a (thenN (wpN P b Q) Q) E m := rfl
def condB (t : Bool) (A B : Prop) (_ : Lk A) (_ : Lk B) : Prop := bP t A B
theorem condB_true (A B : Prop) (l : Lk A) (l' : Lk B) : condB true A B l l' = A := by simp [condB, bP]
theorem condB_false (A B : Prop) (l : Lk A) (l' : Lk B) : condB false A B l l' = B := by simp [condB, bP]
theorem condB_split {t : Bool} {A B : Prop} {l : Lk A} {l' : Lk B} (h : t = true → A) (h' : t = false → B) : condB t A B l l' := ⟨h, h'⟩
theorem condB_dec {p : Prop} [Decidable p] {A B : Prop} {l : Lk A} {l' : Lk B} (h : p → A) (h' : ¬ p → B) : condB (decide p) A B l l' := ⟨fun e => h (of_decide_eq_true e), fun e => h' (of_decide_eq_false e)⟩
theorem condB_pos {p : Prop} [Decidable p] (A B : Prop) (l : Lk A) (l' : Lk B) (h : p) : condB (decide p) A B l l' = A := by rw [decide_eq_true h, condB_true]
theorem condB_neg {p : Prop} [Decidable p] (A B : Prop) (l : Lk A) (l' : Lk B) (h : ¬ p) : condB (decide p) A B l l' = B := by rw [decide_eq_false h, condB_false]
def condV (v : Value) (A B : Prop) (_ : Lk A) (_ : Lk B) : Prop := condP v A B
theorem condV_bool (t : Bool) (A B : Prop) (l : Lk A) (l' : Lk B) : condV (.bool t) A B l l' = condB t A B l l' := by simp [condV, condP, condB]
theorem wpN_cond (x : X) (a b : NC) : wpN P (.cond x a b) Q E m = rcQ (hasAll E x.used = true) (condV (x.ev E.get []) (wpN P a Q E m) (wpN P b Q E m) ⟨⟩ ⟨⟩) ⟨⟩ := rfl
theorem wpN_block (id : Nat) (c : NC) : wpN P (.block id c) Q E m = wpN P c (blockN id Q) E m := rfl
theorem wpN_exit (id : Nat) : wpN P (.exit id) Q E m = Q (.exit id) E m := rfl
theorem wpN_ret : wpN P .ret Q E m = Q .ret E m := rfl
/-- a loop, met -/
def loopQ (P : Program) (ks : List Nat) (c : NC) (Q : Exit → Env → Mem → Prop) (E : Env) (m : Mem) (_ : Lk c) (_ : Lk Q) (_ : Lk E) (_ : Lk m) : Prop := wpN P (.loop ks c) Q E m
theorem wpN_loop (ks : List Nat) (c : NC) : wpN P (.loop ks c) Q E m = loopQ P ks c Q E m ⟨⟩ ⟨⟩ ⟨⟩ ⟨⟩ := rfl
theorem loopQ_intro {ks : List Nat} {c : NC} {l1 : Lk c} {l2 : Lk Q} {l3 : Lk E} {l4 : Lk m} (I : Nat → Env → Mem → Prop) (n : Nat) (hh : hasAll E ks = true) (h0 : I n (only E ks) m)
    (h : ∀ n E m, I n E m → wpN P c (roundN ks I n Q) E m) : loopQ P ks c Q E m l1 l2 l3 l4 := ⟨hh, I, ⟨n, h0⟩, h⟩
theorem thenN_normal {next : Env → Mem → Prop} : thenN next Q .normal E m = next E m := rfl
theorem thenN_exit {next : Env → Mem → Prop} (id : Nat) : thenN next Q (.exit id) E m = Q (.exit id) E m := rfl
theorem thenN_ret {next : Env → Mem → Prop} : thenN next Q .ret E m = Q .ret E m := rfl
theorem blockN_normal (id : Nat) : blockN id Q .normal E m = Q .normal E m := rfl
theorem blockN_ret (id : Nat) : blockN id Q .ret E m = Q .ret E m := rfl
theorem blockN_hit (id : Nat) : blockN id Q (.exit id) E m = Q .normal E m := by simp [blockN]
theorem blockN_miss (id id' : Nat) (h : id' ≠ id) : blockN id Q (.exit id') E m = Q (.exit id') E m := by simp [blockN, h]
/-- the end of a round -/
def handN (I : Nat → Env → Mem → Prop) (n : Nat) (E : Env) (m : Mem) (_ : Lk I) (_ : Lk n) : Prop := ∃ n', n' < n ∧ I n' E m
theorem handN_intro {I : Nat → Env → Mem → Prop} {n : Nat} {l : Lk I} {l' : Lk n} (n' : Nat) (h : n' < n) (h' : I n' E m) : handN I n E m l l' := ⟨n', h, h'⟩
theorem roundN_normal (ks : List Nat) (I : Nat → Env → Mem → Prop) (n : Nat) : roundN ks I n Q .normal E m = rcQ (hasAll E ks = true) (handN I n (only E ks) m ⟨⟩ ⟨⟩) ⟨⟩ := rfl
theorem roundN_exit (ks : List Nat) (I : Nat → Env → Mem → Prop) (n id : Nat) : roundN ks I n Q (.exit id) E m = Q (.exit id) E m := rfl
theorem roundN_ret (ks : List Nat) (I : Nat → Env → Mem → Prop) (n : Nat) : roundN ks I n Q .ret E m = Q .ret E m := rfl
/-- the end of the function -/
def doneF (rvs : List RV) (R : Value → Mem → Prop) (E : Env) (m : Mem) (_ : Lk R) (_ : Lk E) : Prop := hasAll E (rvs.map RV.slotOf) = true ∧ ∃ vs, valsOf E m rvs = some vs ∧ R (tupleV vs) m
theorem retP_normal (rvs : List RV) (R : Value → Mem → Prop) : retP rvs R .normal E m = doneF rvs R E m ⟨⟩ ⟨⟩ := rfl
theorem retP_ret (rvs : List RV) (R : Value → Mem → Prop) : retP rvs R .ret E m = doneF rvs R E m ⟨⟩ ⟨⟩ := rfl
def post (R : Value → Mem → Prop) (v : Value) (m : Mem) (_ : Lk R) : Prop := R v m
theorem doneF_1 (t : Nat) (R : Value → Mem → Prop) (l : Lk R) (l' : Lk E) : doneF [.slot t] R E m l l' = rcQ (E.has t = true) (post R (E.get t) m ⟨⟩) ⟨⟩ := by
  simp [doneF, hasAll, RV.slotOf, valsOf, RV.val, tupleV, rcQ, post]
theorem doneF_c (t : Nat) (R : Value → Mem → Prop) (l : Lk R) (l' : Lk E) : doneF [.cell t] R E m l l' = rcQ (E.has t = true) (bO (rd .ld [E.get t] m) (fun v => post R v m ⟨⟩) ⟨⟩) ⟨⟩ := by
  simp only [doneF, hasAll, List.map_cons, List.map_nil, RV.slotOf, List.all_cons, List.all_nil, Bool.and_true, valsOf, RV.val, rcQ, bO, bindO, post]
  apply propext
  constructor
  · rintro ⟨h, vs, hv, hR⟩
    obtain ⟨v, hv', h2⟩ := Option.bind_eq_some_iff.1 hv
    simp only [Option.map_some, Option.some.injEq] at h2; subst h2
    exact ⟨h, v, hv', hR⟩
  · rintro ⟨h, v, hv, hR⟩
    exact ⟨h, [v], by simp [hv], hR⟩
theorem doneF_cs (t n : Nat) (R : Value → Mem → Prop) (l : Lk R) (l' : Lk E) : doneF [.cells t n] R E m l l' = rcQ (E.has t = true) (bO (rd (.lda n) [E.get t] m) (fun v => post R v m ⟨⟩) ⟨⟩) ⟨⟩ := by
  simp only [doneF, hasAll, List.map_cons, List.map_nil, RV.slotOf, List.all_cons, List.all_nil, Bool.and_true, valsOf, RV.val, rcQ, bO, bindO, post]
  apply propext
  constructor
  · rintro ⟨h, vs, hv, hR⟩
    obtain ⟨v, hv', h2⟩ := Option.bind_eq_some_iff.1 hv
    simp only [Option.map_some, Option.some.injEq] at h2; subst h2
    exact ⟨h, v, hv', hR⟩
  · rintro ⟨h, v, hv, hR⟩
    exact ⟨h, [v], by simp [hv], hR⟩
theorem doneF_0 (R : Value → Mem → Prop) (l : Lk R) (l' : Lk E) : doneF [] R E m l l' = post R (.tuple #[]) m ⟨⟩ := by
  simp [doneF, hasAll, valsOf, tupleV, post]
theorem doneF_2 (t u : Nat) (R : Value → Mem → Prop) (l : Lk R) (l' : Lk E) : doneF [.slot t, .slot u] R E m l l' = rcQ (E.has t = true ∧ E.has u = true) (post R (.tuple #[E.get t, E.get u]) m ⟨⟩) ⟨⟩ := by
  simp [doneF, hasAll, RV.slotOf, valsOf, RV.val, tupleV, rcQ, post]
theorem post_intro {R : Value → Mem → Prop} {v : Value} {l : Lk R} (h : R v m) : post R v m l := h

/-! environments -/
theorem get_cons (j : Nat) (v : Value) (r : Env) (i : Nat) : Env.get ((j, v) :: r) i = if i = j then v else Env.get r i := rfl
theorem get_hit (j : Nat) (v : Value) (r : Env) : Env.get ((j, v) :: r) j = v := by simp [Env.get]
theorem get_miss (j : Nat) (v : Value) (r : Env) (i : Nat) (h : i ≠ j) : Env.get ((j, v) :: r) i = Env.get r i := by simp [Env.get, h]
theorem has_hit (j : Nat) (v : Value) (r : Env) : Env.has ((j, v) :: r) j = true := by simp [Env.has]
theorem has_miss (j : Nat) (v : Value) (r : Env) (i : Nat) (h : i ≠ j) : Env.has ((j, v) :: r) i = Env.has r i := by simp [Env.has, h]
theorem hasAll_nil : hasAll E [] = true := rfl
theorem hasAll_cons (t : Nat) (r : List Nat) : hasAll E (t :: r) = (E.has t && hasAll E r) := rfl
theorem only_nil : only E [] = [] := rfl
theorem only_cons (t : Nat) (r : List Nat) : only E (t :: r) = (t, E.get t) :: only E r := rfl
theorem ev_slot (t : Nat) : (X.slot t).ev L σ = L t := rfl
theorem ev_res (t : Nat) : (X.res t).ev L σ = σ.get t := rfl
theorem ev_const (v : Value) : (X.const v).ev L σ = v := rfl
theorem ev_fn (f : Nat) : (X.fn f).ev L σ = .func (.func f) #[] #[] := rfl
theorem used_slot (t : Nat) : (X.slot t).used = [t] := rfl
theorem used_const (v : Value) : (X.const v).used = [] := rfl
theorem zipP_nil (i : Nat) : zipP i [] = [] := rfl
theorem zipP_cons (i : Nat) (v : Value) (r : List Value) : zipP i (v :: r) = (i, v) :: zipP (i + 1) r := rfl

attribute [go_sem ↓] etP_out etP_q0 etP_q1 etP_x0 etP_x1 etP_both etP_tt rcP_nil rcP_cons rcP_cons1
attribute [go_sem ↓] wpN_skip wpN_reg wpN_seq wpN_cond wpN_block wpN_exit wpN_ret wpN_loop thenN_normal thenN_exit thenN_ret blockN_normal blockN_ret blockN_hit blockN_miss roundN_normal roundN_exit roundN_ret retP_normal retP_ret
attribute [go_sem ↓] get_hit get_miss has_hit has_miss
attribute [go_sem] rcQ_of bO_some bM_some gQ_tt gQ_ff gQ_tf gQ_ft gQ_none outE_def evO evA rcQ_true condB_true condB_false condB_pos condB_neg condV_bool doneF_1 doneF_0 doneF_2 doneF_c doneF_cs
attribute [go_sem] hasAll_nil hasAll_cons only_nil only_cons ev_slot ev_res ev_const ev_fn used_slot used_const zipP_nil zipP_cons Bool.and_true Bool.true_and asB

/-! what operations yield -/
theorem rd_pick (c : Bool) (a b : Value) : rd .pick [.bool c, a, b] m = some (if c then a else b) := rfl
theorem rd_nilck (a : Addr) : rd .nilck [.pointer (some a)] m = some (.pointer (some a)) := rfl
theorem rd_fld (off : Nat) (a : Addr) : rd (.fld off) [.pointer (some a)] m = some (.pointer (some (a.add off))) := rfl
theorem rd_ixs (size : Nat) (a : Addr) (n c : Nat) (k : IntKind) (i : Int) (h : 0 ≤ i ∧ i < n) : rd (.ixs size) [.slice (some a) n c, .int k i] m = some (.pointer (some (a.add (i.toNat * size)))) := by
  show (if _ then _ else _) = _; rw [if_pos h]; rfl
theorem rd_ixa (len size : Nat) (a : Addr) (k : IntKind) (i : Int) (h : 0 ≤ i ∧ i < len) : rd (.ixa len size) [.pointer (some a), .int k i] m = some (.pointer (some (a.add (i.toNat * size)))) := by
  show (if _ then _ else _) = _; rw [if_pos h]
theorem rd_ld (a : Addr) : rd .ld [.pointer (some a)] m = cell m a := rfl
theorem rd_lda (n : Nat) (a : Addr) : rd (.lda n) [.pointer (some a)] m = (ldCells m a 0 n).map fun l => .agg l.toArray := rfl
theorem rd_prt (off : Nat) (cs : Array Value) : rd (.prt off) [.agg cs] m = cs[off]? := rfl
theorem rd_prta (off n : Nat) (cs : Array Value) : rd (.prta off n) [.agg cs] m = some (.agg (cs.extract off (off + n))) := rfl
theorem rd_ext (i : Nat) (cs : Array Value) : rd (.ext i) [.tuple cs] m = cs[i]? := rfl
theorem rd_add (k : IntKind) (a b : Int) : rd (.iar .add) [.int k a, .int k b] m = some (.int k (k.wrap (a + b))) := by simp [rd, rdp, RO.reads, i2]
theorem rd_sub (k : IntKind) (a b : Int) : rd (.iar .sub) [.int k a, .int k b] m = some (.int k (k.wrap (a - b))) := by simp [rd, rdp, RO.reads, i2]
theorem rd_mul (k : IntKind) (a b : Int) : rd (.iar .mul) [.int k a, .int k b] m = some (.int k (k.wrap (a * b))) := by simp [rd, rdp, RO.reads, i2]
theorem rd_quo (k : IntKind) (a b : Int) (h : b ≠ 0) : rd (.idv .quo) [.int k a, .int k b] m = some (.int k (k.wrap (a.tdiv b))) := by simp [rd, rdp, RO.reads, i2, h]
theorem rd_rem (k : IntKind) (a b : Int) (h : b ≠ 0) : rd (.idv .rem) [.int k a, .int k b] m = some (.int k (a.tmod b)) := by simp [rd, rdp, RO.reads, i2, h]
theorem rd_eql (k : IntKind) (a b : Int) : rd (.icm .eql) [.int k a, .int k b] m = some (.bool (decide (a = b))) := by
  simp only [rd, rdp, RO.reads, i2, if_true]; congr 2
theorem rd_neq (k : IntKind) (a b : Int) : rd (.icm .neq) [.int k a, .int k b] m = some (.bool (decide (a ≠ b))) := by
  simp only [rd, rdp, RO.reads, i2, if_true]; congr 2; by_cases h : a = b <;> simp [h]
theorem rd_lss (k : IntKind) (a b : Int) : rd (.icm .lss) [.int k a, .int k b] m = some (.bool (decide (a < b))) := by simp [rd, rdp, RO.reads, i2]
theorem rd_leq (k : IntKind) (a b : Int) : rd (.icm .leq) [.int k a, .int k b] m = some (.bool (decide (a ≤ b))) := by simp [rd, rdp, RO.reads, i2]
theorem rd_gtr (k : IntKind) (a b : Int) : rd (.icm .gtr) [.int k a, .int k b] m = some (.bool (decide (b < a))) := by simp [rd, rdp, RO.reads, i2]
theorem rd_geq (k : IntKind) (a b : Int) : rd (.icm .geq) [.int k a, .int k b] m = some (.bool (decide (b ≤ a))) := by simp [rd, rdp, RO.reads, i2]
theorem rd_beq (a b : Bool) : rd (.beq false) [.bool a, .bool b] m = some (.bool (a == b)) := by simp [rd, rdp, RO.reads, b2]
theorem rd_bne (a b : Bool) : rd (.beq true) [.bool a, .bool b] m = some (.bool (a != b)) := by simp [rd, rdp, RO.reads, b2]
theorem rd_eqp0 (a : Option Addr) : rd (.eqp false) [.pointer a, .pointer none] m = some (.bool a.isNone) := by simp [rd, rdp, RO.reads, eqp]
theorem rd_eqp1 (a : Option Addr) : rd (.eqp true) [.pointer a, .pointer none] m = some (.bool a.isSome) := by simp [rd, rdp, RO.reads, eqp]
theorem rd_not (a : Bool) : rd .not [.bool a] m = some (.bool !a) := rfl
theorem rd_neg (k : IntKind) (n : Int) : rd .neg [.int k n] m = some (.int k (k.wrap (0 - n))) := rfl
theorem rd_conv (k k' : IntKind) (n : Int) : rd (.conv k) [.int k' n] m = some (.int k (k.wrap n)) := rfl
theorem rd_len (a : Option Addr) (n c : Nat) : rd .len [.slice a n c] m = some (.int .i64 n) := rfl
theorem rd_lenz (s : ByteArray) : rd .lenz [.string s] m = some (.int .i64 s.size) := rfl
theorem rd_mn (k : IntKind) (a b : Int) : rd .mn [.int k a, .int k b] m = some (.int k (min a b)) := by
  show (Option.bind (mn2 _ _) fun u => fold2 mn2 u []) = _
  simp only [mn2, if_true, Option.bind_some, fold2]; congr 2; omega
theorem rd_mx (k : IntKind) (a b : Int) : rd .mx [.int k a, .int k b] m = some (.int k (max a b)) := by
  show (Option.bind (mx2 _ _) fun u => fold2 mx2 u []) = _
  simp only [mx2, if_true, Option.bind_some, fold2]; congr 2; omega
theorem rd_mn3 (k : IntKind) (a b c : Int) : rd .mn [.int k a, .int k b, .int k c] m = some (.int k (min (min a b) c)) := by
  show (Option.bind (mn2 _ _) fun u => fold2 mn2 u [.int k c]) = _
  rw [show mn2 (.int k a) (.int k b) = some (.int k (min a b)) from by simp only [mn2, if_true]; congr 2; omega, Option.bind_some]
  show (Option.bind (mn2 _ _) fun u => fold2 mn2 u []) = _
  simp only [mn2, if_true, Option.bind_some, fold2]; congr 2; omega
theorem rd_mx3 (k : IntKind) (a b c : Int) : rd .mx [.int k a, .int k b, .int k c] m = some (.int k (max (max a b) c)) := by
  show (Option.bind (mx2 _ _) fun u => fold2 mx2 u [.int k c]) = _
  rw [show mx2 (.int k a) (.int k b) = some (.int k (max a b)) from by simp only [mx2, if_true]; congr 2; omega, Option.bind_some]
  show (Option.bind (mx2 _ _) fun u => fold2 mx2 u []) = _
  simp only [mx2, if_true, Option.bind_some, fold2]; congr 2; omega
theorem rd_slc00 (size : Nat) (a : Option Addr) (n c : Nat) : rd (.slc size false false) [.slice a n c] m = cutS size a c 0 n := rfl
theorem rd_slc10 (size : Nat) (a : Option Addr) (n c : Nat) (k : IntKind) (lo : Int) : rd (.slc size true false) [.slice a n c, .int k lo] m = cutS size a c lo n := rfl
theorem rd_slc01 (size : Nat) (a : Option Addr) (n c : Nat) (k : IntKind) (hi : Int) : rd (.slc size false true) [.slice a n c, .int k hi] m = cutS size a c 0 hi := rfl
theorem rd_slc11 (size : Nat) (a : Option Addr) (n c : Nat) (k k' : IntKind) (lo hi : Int) : rd (.slc size true true) [.slice a n c, .int k lo, .int k' hi] m = cutS size a c lo hi := rfl
theorem rd_mki (t : TypeId) (v : Value) : rd (.mki t) [v] m = some (.iface t v) := rfl
attribute [go_sem] rd_pick rd_nilck rd_fld rd_ixs rd_ixa rd_ld rd_prt rd_prta rd_ext rd_add rd_sub rd_mul rd_quo rd_rem rd_eql rd_neq rd_lss rd_leq rd_gtr rd_geq rd_beq rd_bne rd_eqp0 rd_eqp1 rd_not rd_neg rd_conv rd_len rd_lenz rd_mn rd_mx
  rd_slc00 rd_slc10 rd_slc01 rd_slc11 rd_mki

theorem cutS_in (size : Nat) (a : Option Addr) (c : Nat) (lo hi : Int) (h : 0 ≤ lo ∧ lo ≤ hi ∧ hi ≤ c) : cutS size a c lo hi = some (.slice (if c = lo.toNat then a else a.map (·.add (lo.toNat * size))) (hi.toNat - lo.toNat) (c - lo.toNat)) := by
  unfold cutS; rw [if_pos h]
theorem cutS_0 (size : Nat) (a : Option Addr) (c : Nat) (hi : Int) (h : 0 ≤ hi ∧ hi ≤ c) : cutS size a c 0 hi = some (.slice a hi.toNat c) := by
  rw [cutS_in _ _ _ _ _ ⟨by omega, by omega, by omega⟩]
  simp only [Int.toNat_zero, Nat.sub_zero, Nat.zero_mul]
  congr 2
  split
  · rfl
  · cases a with
    | none => rfl
    | some a => simp [Addr.add]
theorem cutS_pos (size : Nat) (a : Option Addr) (c : Nat) (lo hi : Int) (h : 0 < lo ∧ lo ≤ hi ∧ hi ≤ c) : cutS size a c lo hi = some (.slice (if c = lo.toNat then a else a.map (·.add (lo.toNat * size))) (hi.toNat - lo.toNat) (c - lo.toNat)) :=
  cutS_in size a c lo hi ⟨by omega, h.2.1, h.2.2⟩
attribute [go_sem] cutS_0 cutS_pos Int.toNat_natCast Int.toNat_zero IntWalk.i64_in and_true true_and

/-! memory -/
def cellAt (o : Option Obj) (i : Nat) : Option Value :=
  match o with
  | some (.cells c _ _) => c[i]?
  | _ => none
theorem cell_mk (b o : Nat) : cell m ⟨b, o, none⟩ = cellAt (m b) o := by
  unfold cell cellAt
  cases m b with
  | none => rfl
  | some x => cases x <;> rfl
theorem cellAt_cells (c : Array Value) (t : TypeId) (fr : Nat × Nat) (i : Nat) : cellAt (some (.cells c t fr)) i = c[i]? := rfl
theorem add_mk (b o n : Nat) : Addr.add ⟨b, o, none⟩ n = ⟨b, o + n, none⟩ := by unfold Addr.add; split <;> simp_all
theorem set_self (b : Nat) (o : Obj) : (m.set b o) b = some o := by simp [Mem.set]
theorem set_ne (b : Nat) (o : Obj) (c : Nat) (h : c ≠ b) : (m.set b o) c = m c := by simp [Mem.set, h]
theorem set_set (b : Nat) (o o' : Obj) : (m.set b o).set b o' = m.set b o' := by funext c; simp only [Mem.set]; split <;> rfl
/-- a cell is written, if it may be -/
def putAt (o : Option Obj) (i : Nat) (v : Value) : Option Obj :=
  match o with
  | some (.cells c t fr) => if i < c.size ∧ ¬ (fr.1 ≤ i ∧ i < fr.2) then some (.cells (c.setIfInBounds i v) t fr) else none
  | _ => none
def bObj (o : Option Obj) (K : Obj → Prop) (_ : Lk K) : Prop := ∃ v, o = some v ∧ K v
theorem bObj_some (v : Obj) (K : Obj → Prop) (l : Lk K) : bObj (some v) K l = K v := by
  apply propext; exact ⟨fun ⟨u, e, h⟩ => (by cases e; exact h), fun h => ⟨v, rfl, h⟩⟩
theorem putAt_cells (c : Array Value) (t : TypeId) (i : Nat) (v : Value) (h : i < c.size) : putAt (some (.cells c t (0, 0))) i v = some (.cells (c.setIfInBounds i v) t (0, 0)) := by
  simp [putAt, h]
theorem bObj_put (c : Array Value) (t : TypeId) (i : Nat) (v : Value) (K : Obj → Prop) (l : Lk K) : bObj (putAt (some (.cells c t (0, 0))) i v) K l = rcQ (i < c.size) (K (.cells (c.setIfInBounds i v) t (0, 0))) ⟨⟩ := by
  by_cases h : i < c.size
  · rw [putAt_cells c t i v h, bObj_some]; simp [rcQ, h]
  · simp [putAt, h, bObj, rcQ]
theorem putC_mk (b o : Nat) (v : Value) : putC m ⟨b, o, none⟩ v = (putAt (m b) o v).map fun x => m.set b x := by
  unfold putC putAt
  cases m b with
  | none => rfl
  | some x =>
    cases x <;> try rfl
    rename_i c t fr
    simp only
    by_cases h1 : o < c.size
    · by_cases h2 : fr.1 ≤ o ∧ o < fr.2
      · simp [h1, h2]
      · have : (decide (fr.1 ≤ o) && decide (o < fr.2)) = false := by simpa using h2
        simp [h1, h2, this]
    · simp [h1]
/-- a block is written -/
def wrO (m : Mem) (b : Nat) (o : Obj) (J : Mem → Prop) (_ : Lk J) (_ : Lk m) : Prop := J (m.set b o)
theorem xs_st1 (b o : Nat) (v : Value) (K : Value → Mem → Prop) (l : Lk K) (h : v.oneCell' = true) : xsP P (.st 1) [.pointer (some ⟨b, o, none⟩), v] m K l = bObj (putAt (m b) o v) (fun x => wrO m b x (K undef) ⟨⟩ ⟨⟩) ⟨⟩ := by
  have hc : v.cells = #[v] := by cases v <;> first | rfl | (simp [Value.oneCell'] at h)
  simp only [xsP, xs, pP, hc, stCells, h, if_true, add_mk, Nat.add_zero, putC_mk]
  apply propext
  constructor
  · rintro ⟨_, m', hm, hk⟩
    obtain ⟨m1, hm1, hm2⟩ := Option.bind_eq_some_iff.1 hm
    obtain ⟨x, hx, rfl⟩ := Option.map_eq_some_iff.1 hm1
    cases hm2
    exact ⟨x, hx, hk⟩
  · rintro ⟨x, hx, hk⟩
    exact ⟨rfl, m.set b x, by rw [hx]; rfl, hk⟩
theorem xs_st1_int (b o : Nat) (k : IntKind) (n : Int) (K : Value → Mem → Prop) (l : Lk K) : xsP P (.st 1) [.pointer (some ⟨b, o, none⟩), .int k n] m K l = bObj (putAt (m b) o (.int k n)) (fun x => wrO m b x (K undef) ⟨⟩ ⟨⟩) ⟨⟩ := xs_st1 b o _ K l rfl
theorem xs_st1_bool (b o : Nat) (n : Bool) (K : Value → Mem → Prop) (l : Lk K) : xsP P (.st 1) [.pointer (some ⟨b, o, none⟩), .bool n] m K l = bObj (putAt (m b) o (.bool n)) (fun x => wrO m b x (K undef) ⟨⟩ ⟨⟩) ⟨⟩ := xs_st1 b o _ K l rfl
theorem xs_st1_slice (b o : Nat) (a : Option Addr) (n c : Nat) (K : Value → Mem → Prop) (l : Lk K) : xsP P (.st 1) [.pointer (some ⟨b, o, none⟩), .slice a n c] m K l = bObj (putAt (m b) o (.slice a n c)) (fun x => wrO m b x (K undef) ⟨⟩ ⟨⟩) ⟨⟩ := xs_st1 b o _ K l rfl
theorem xs_st1_ptr (b o : Nat) (a : Option Addr) (K : Value → Mem → Prop) (l : Lk K) : xsP P (.st 1) [.pointer (some ⟨b, o, none⟩), .pointer a] m K l = bObj (putAt (m b) o (.pointer a)) (fun x => wrO m b x (K undef) ⟨⟩ ⟨⟩) ⟨⟩ := xs_st1 b o _ K l rfl
theorem xs_st1_string (b o : Nat) (s : ByteArray) (K : Value → Mem → Prop) (l : Lk K) : xsP P (.st 1) [.pointer (some ⟨b, o, none⟩), .string s] m K l = bObj (putAt (m b) o (.string s)) (fun x => wrO m b x (K undef) ⟨⟩ ⟨⟩) ⟨⟩ := xs_st1 b o _ K l rfl
theorem xs_st1_map (b o : Nat) (a : Option Nat) (K : Value → Mem → Prop) (l : Lk K) : xsP P (.st 1) [.pointer (some ⟨b, o, none⟩), .map a] m K l = bObj (putAt (m b) o (.map a)) (fun x => wrO m b x (K undef) ⟨⟩ ⟨⟩) ⟨⟩ := xs_st1 b o _ K l rfl

/-- several cells are written -/
def stQ (m : Mem) (a : Addr) (i : Nat) (l : List Value) (K : Mem → Prop) (_ : Lk K) (_ : Lk m) : Prop := ∃ m', stCells m a i l = some m' ∧ K m'
theorem one_int (k : IntKind) (n : Int) : (Value.int k n).oneCell' = true := rfl
theorem one_bool (b : Bool) : (Value.bool b).oneCell' = true := rfl
theorem one_string (b : ByteArray) : (Value.string b).oneCell' = true := rfl
theorem one_slice (a : Option Addr) (n c : Nat) : (Value.slice a n c).oneCell' = true := rfl
theorem one_pointer (a : Option Addr) : (Value.pointer a).oneCell' = true := rfl
theorem one_map (a : Option Nat) : (Value.map a).oneCell' = true := rfl
theorem xs_stn (n : Nat) (a : Addr) (cs : Array Value) (K : Value → Mem → Prop) (l : Lk K) : xsP P (.st n) [.pointer (some a), .agg cs] m K l = rcQ (cs.toList.length = n) (stQ m a 0 cs.toList (K undef) ⟨⟩ ⟨⟩) ⟨⟩ := by
  simp only [xsP, xs, pP, Value.cells, rcQ, stQ, Array.length_toList]
theorem ldCells_0 (a : Addr) (i : Nat) : ldCells m a i 0 = some [] := rfl
theorem ldCells_s (b o i n : Nat) : ldCells m ⟨b, o, none⟩ i (n + 1) = (cellAt (m b) (o + i)).bind fun v => (ldCells m ⟨b, o, none⟩ (i + 1) n).map (v :: ·) := by
  simp only [ldCells, add_mk, cell_mk]
/-- cells of one block, loaded -/
def ldaO (o : Option Obj) (i n : Nat) : Option Value :=
  match o with
  | some (.cells c _ _) => if i + n ≤ c.size then some (.agg ((c.toList.drop i).take n).toArray) else none
  | _ => none
attribute [go_sem] one_int one_bool one_string one_slice one_pointer one_map xs_stn
attribute [go_sem] List.getElem?_toArray List.setIfInBounds_toArray List.size_toArray List.extract_toArray List.getElem?_cons_zero List.getElem?_cons_succ List.set_cons_succ List.set_cons_zero
attribute [go_sem] List.drop_succ_cons List.drop_zero List.take_succ_cons List.take_zero List.getElem?_map List.length_map List.length_set List.extract_eq_take_drop Option.getD_some
/-- a callee, by its contract -/
def callP (P : Program) (f : Nat) (args : List Value) (m : Mem) (K : Value → Mem → Prop) (_ : Lk K) : Prop := MC P f args m K
theorem xs_call (f : Nat) (args : List Value) (K : Value → Mem → Prop) (l : Lk K) : xsP P (.call f) args m K l = callP P f args m K l := by
  simp only [xsP, callP]; cases args <;> rfl
theorem call_with {f : Nat} {args : List Value} {R K : Value → Mem → Prop} {l : Lk K} (h : MC P f args m R) (hk : ∀ v m', R v m' → K v m') : callP P f args m K l := MC.mono h hk
/-- new memory -/
def newO (m : Mem) (o : Obj) (J : Nat → Mem → Prop) (_ : Lk J) (_ : Lk m) : Prop := ∀ b, m b = none → J b (m.set b o)
theorem newO_intro {o : Obj} {J : Nat → Mem → Prop} {l : Lk J} {l' : Lk m} (h : ∀ b, m b = none → J b (m.set b o)) : newO m o J l l' := h
theorem xs_mks (t : TypeId) (bytes : Nat) (zero : List Value) (n c : Int) (K : Value → Mem → Prop) (l : Lk K) (h : 0 ≤ n ∧ n ≤ c ∧ c ≤ 9223372036854775807 ∧ bytes * c ≤ 281474976710656) : xsP P (.mks t bytes zero) [.int .i64 n, .int .i64 c] m K l =
    newO m (.cells (List.replicate c.toNat zero).flatten.toArray t) (fun b M => K (.slice (some ⟨b, 0, none⟩) n.toNat c.toNat) M) ⟨⟩ ⟨⟩ := by
  simp only [xsP, xs, iP, newO, h, true_and]
theorem xs_alc (zero : List Value) (t : TypeId) (K : Value → Mem → Prop) (l : Lk K) : xsP P (.alc zero t) [] m K l = newO m (.cells zero.toArray t) (fun b M => K (.pointer (some ⟨b, 0, none⟩)) M) ⟨⟩ ⟨⟩ := rfl
theorem xs_box (t : TypeId) (v : Value) (K : Value → Mem → Prop) (l : Lk K) : xsP P (.box t) [v] m K l = newO m (.cells v.cells t) (fun b M => K (.pointer (some ⟨b, 0, none⟩)) M) ⟨⟩ ⟨⟩ := rfl
theorem rd_bld (zero : List Value) (ps : List (Nat × Nat)) (vs : List Value) : rd (.bld zero ps) vs m = (lay zero ps vs).map fun l => .agg l.toArray := rfl
theorem vcl_agg (l : Array Value) : vcl (.agg l) = l.toList := rfl
theorem vcl_int (k : IntKind) (n : Int) : vcl (.int k n) = [.int k n] := rfl
theorem vcl_bool (b : Bool) : vcl (.bool b) = [.bool b] := rfl
theorem vcl_string (b : ByteArray) : vcl (.string b) = [.string b] := rfl
theorem vcl_slice (a : Option Addr) (n c : Nat) : vcl (.slice a n c) = [.slice a n c] := rfl
theorem vcl_pointer (a : Option Addr) : vcl (.pointer a) = [.pointer a] := rfl
theorem vcl_map (a : Option Nat) : vcl (.map a) = [.map a] := rfl
theorem lay_nil (c : List Value) : lay c [] [] = some c := rfl
theorem lay_cons (x : Value) (c : List Value) (off size : Nat) (ps : List (Nat × Nat)) (v : Value) (vs : List Value) : lay (x :: c) ((off, size) :: ps) (v :: vs) = if (vcl v).length = size then (spl off (vcl v) (x :: c)).bind fun cs => lay cs ps vs else none := rfl
theorem spl_nil (c : List Value) : spl 0 [] c = some c := by cases c <;> rfl
theorem spl_zero (v : Value) (vs : List Value) (x : Value) (c : List Value) : spl 0 (v :: vs) (x :: c) = (spl 0 vs c).map (v :: ·) := rfl
theorem spl_succ (n : Nat) (vs : List Value) (x : Value) (c : List Value) : spl (n + 1) vs (x :: c) = (spl n vs c).map (x :: ·) := by cases vs <;> rfl
def bL (o : Option (List Value)) (K : List Value → Prop) (_ : Lk K) : Prop := ∃ v, o = some v ∧ K v
theorem bL_some (v : List Value) (K : List Value → Prop) (l : Lk K) : bL (some v) K l = K v := by
  apply propext; exact ⟨fun ⟨u, e, h⟩ => (by cases e; exact h), fun h => ⟨v, rfl, h⟩⟩
theorem xs_bsl (t : TypeId) (len : Nat) (zero : List Value) (ps : List (Nat × Nat)) (vs : List Value) (K : Value → Mem → Prop) (l : Lk K) : xsP P (.bsl t len zero ps) vs m K l =
    bL (lay zero ps vs) (fun l => newO m (.cells l.toArray t) (fun b M => K (.slice (some ⟨b, 0, none⟩) len len) M) ⟨⟩ ⟨⟩) ⟨⟩ := by
  simp only [xsP, xs]; rfl
/-- an append, met -/
def appQ (P : Program) (t : TypeId) (size bytes : Nat) (zero : List Value) (x y : Value) (m : Mem) (K : Value → Mem → Prop) (_ : Lk K) (_ : Lk x) (_ : Lk m) : Prop := xs P (.app t size bytes zero) [x, y] m K
theorem xs_app (t : TypeId) (size bytes : Nat) (zero : List Value) (x y : Value) (K : Value → Mem → Prop) (l : Lk K) : xsP P (.app t size bytes zero) [x, y] m K l = appQ P t size bytes zero x y m K ⟨⟩ ⟨⟩ ⟨⟩ := rfl
def cpyQ (P : Program) (size : Nat) (x y : Value) (m : Mem) (K : Value → Mem → Prop) (_ : Lk K) (_ : Lk x) (_ : Lk m) : Prop := xs P (.cpy size) [x, y] m K
theorem xs_cpy (size : Nat) (x y : Value) (K : Value → Mem → Prop) (l : Lk K) : xsP P (.cpy size) [x, y] m K l = cpyQ P size x y m K ⟨⟩ ⟨⟩ ⟨⟩ := rfl
attribute [go_sem] rd_bld vcl_agg vcl_int vcl_bool vcl_string vcl_slice vcl_pointer vcl_map lay_nil lay_cons spl_nil spl_zero spl_succ bL_some xs_bsl xs_app xs_cpy List.length_cons List.length_nil eq_self ite_true ite_false Option.bind_some
attribute [go_sem] cell_mk cellAt_cells add_mk set_self set_ne set_set bObj_put bObj_some xs_st1_int xs_st1_bool xs_st1_slice xs_st1_ptr xs_st1_string xs_st1_map xs_call xs_mks xs_alc xs_box
attribute [go_sem] Option.map_some Option.map_none Nat.mul_one Nat.zero_add Nat.add_zero

theorem MC_start {f : Nat} {fn : Func} {F : FN} (hf : P.funcs[f]? = some fn) (hc : compF P fn = some F) (hm : P.follows .mixedOrders = true) {args : List Value} {R : Value → Mem → Prop}
    (hn : args.length ≤ fn.ntmps) (h : wpN P F.code (retP F.rvs R) (zipP 0 args) m) : MC P f args m R := MC_of hf hc hm hn h
end
end Go.Fw

/-! Memory that a call made itself: rows that grow. -/
namespace Go.Fw
open Go

/-- nothing that was there has turned, but for the blocks of S -/
def Fr (m m' : Mem) (S : List Nat) : Prop := ∀ b, m b ≠ none → b ∉ S → m' b = m b
theorem Fr.refl (m : Mem) (S : List Nat) : Fr m m S := fun _ _ _ => rfl
theorem Fr.trans {a b c : Mem} {S T : List Nat} (h : Fr a b S) (g : Fr b c T) (hT : ∀ x ∈ T, a x ≠ none → x ∈ S) : Fr a c S := fun x hx hS => by
  have h1 := h x hx hS
  rw [g x (by rw [h1]; exact hx) (fun hxT => hS (hT x hxT hx)), h1]
theorem Fr.trans0 {a b c : Mem} {S : List Nat} (h : Fr a b S) (g : Fr b c []) : Fr a c S := h.trans g (fun _ hx => by cases hx)
theorem Fr.transS {a b c : Mem} {S : List Nat} (h : Fr a b S) (g : Fr b c S) : Fr a c S := h.trans g (fun _ hx _ => hx)
theorem Fr.sub {a b : Mem} {S T : List Nat} (h : Fr a b S) (hs : ∀ x ∈ S, x ∈ T) : Fr a b T := fun x hx hT => h x hx (fun hS => hT (hs x hS))
theorem Fr.new {m : Mem} {b : Nat} {o : Obj} (S : List Nat) (hb : m b = none) : Fr m (m.set b o) S := fun x hx _ => by
  unfold Mem.set; rw [if_neg]; rintro rfl; exact hx hb
theorem Fr.set {m : Mem} {b : Nat} {o : Obj} {S : List Nat} (hb : b ∈ S) : Fr m (m.set b o) S := fun x _ hS => by
  unfold Mem.set; rw [if_neg]; rintro rfl; exact hS hb
theorem Fr.get {m m' : Mem} {S : List Nat} (h : Fr m m' S) {b : Nat} {o : Obj} (hb : m b = some o) (hS : b ∉ S) : m' b = some o := by
  rw [h b (by rw [hb]; exact Option.some_ne_none _) hS, hb]
theorem Fr.get0 {m m' : Mem} (h : Fr m m' []) {b : Nat} {o : Obj} (hb : m b = some o) : m' b = some o := h.get hb (by simp)
theorem Fr.cellAt {m m' : Mem} {S : List Nat} (h : Fr m m' S) {b i : Nat} {v : Value} (hb : cellAt (m b) i = some v) (hS : b ∉ S) : cellAt (m' b) i = some v := by
  rw [h b (by intro e; rw [e] at hb; cases hb) hS]; exact hb
theorem Fr.some {m m' : Mem} {S : List Nat} (h : Fr m m' S) {b : Nat} (hb : m b ≠ none) (hS : b ∉ S) : m' b ≠ none := by rw [h b hb hS]; exact hb

/-! rows given by functions -/
def Up {α : Type} (f : Nat → α) (k : Nat) (x : α) : Nat → α := fun i => if i = k then x else f i
theorem Up_self {α : Type} (f : Nat → α) (k : Nat) (x : α) : Up f k x k = x := by simp [Up]
theorem Up_ne {α : Type} {f : Nat → α} {k i : Nat} (x : α) (h : i ≠ k) : Up f k x i = f i := by simp [Up, h]
def ri (n : Nat) (f : Nat → Int) : List Value := (List.range n).map fun i => .int .i64 (f i)
def rb (n : Nat) (f : Nat → Bool) : List Value := (List.range n).map fun i => .bool (f i)
theorem ri_len (n : Nat) (f : Nat → Int) : (ri n f).length = n := by simp [ri]
theorem rb_len (n : Nat) (f : Nat → Bool) : (rb n f).length = n := by simp [rb]
theorem ri_get (n : Nat) (f : Nat → Int) (k : Nat) (h : k < n) : (ri n f)[k]? = some (.int .i64 (f k)) := by simp [ri, List.getElem?_range h]
theorem rb_get (n : Nat) (f : Nat → Bool) (k : Nat) (h : k < n) : (rb n f)[k]? = some (.bool (f k)) := by simp [rb, List.getElem?_range h]
theorem ri_set (n : Nat) (f : Nat → Int) (k : Nat) (x : Int) : (ri n f).set k (.int .i64 x) = ri n (Up f k x) := by
  apply List.ext_getElem?
  intro i
  rw [List.getElem?_set]
  by_cases hi : i < n
  · rw [ri_get n _ i hi]
    split
    · rename_i e; subst e; rw [if_pos (by rw [ri_len]; exact hi), ri_get n _ k hi, Up_self]
    · rename_i e; rw [ri_get n _ i hi, Up_ne _ (fun h => e h.symm)]
  · have h1 : ∀ g, (ri n g)[i]? = none := fun g => List.getElem?_eq_none (by rw [ri_len]; omega)
    rw [h1, h1]
    split
    · rw [if_neg (by rw [ri_len]; omega)]
    · rfl
theorem rb_set (n : Nat) (f : Nat → Bool) (k : Nat) (x : Bool) : (rb n f).set k (.bool x) = rb n (Up f k x) := by
  apply List.ext_getElem?
  intro i
  rw [List.getElem?_set]
  by_cases hi : i < n
  · rw [rb_get n _ i hi]
    split
    · rename_i e; subst e; rw [if_pos (by rw [rb_len]; exact hi), rb_get n _ k hi, Up_self]
    · rename_i e; rw [rb_get n _ i hi, Up_ne _ (fun h => e h.symm)]
  · have h1 : ∀ g, (rb n g)[i]? = none := fun g => List.getElem?_eq_none (by rw [rb_len]; omega)
    rw [h1, h1]
    split
    · rw [if_neg (by rw [rb_len]; omega)]
    · rfl
theorem ri_new (n : Nat) : (List.replicate n [Value.int .i64 0]).flatten = ri n fun _ => 0 := by
  apply List.ext_getElem?
  intro i
  by_cases hi : i < n
  · rw [ri_get n _ i hi]
    simp [List.flatten_replicate_singleton, hi]
  · rw [List.getElem?_eq_none (by simp; omega), List.getElem?_eq_none (by rw [ri_len]; omega)]
theorem rb_new (n : Nat) : (List.replicate n [Value.bool false]).flatten = rb n fun _ => false := by
  apply List.ext_getElem?
  intro i
  by_cases hi : i < n
  · rw [rb_get n _ i hi]
    simp [List.flatten_replicate_singleton, hi]
  · rw [List.getElem?_eq_none (by simp; omega), List.getElem?_eq_none (by rw [rb_len]; omega)]
attribute [go_sem] ri_len rb_len ri_get rb_get ri_set rb_set ri_new rb_new

/-- a slice of one-cell elements that reads as l -/
def Rd1 (m : Mem) (a : Option Addr) (l : List Value) : Prop := l = [] ∨ ∃ b o, a = some ⟨b, o, none⟩ ∧ ∀ i v, l[i]? = some v → cellAt (m b) (o + i) = some v
theorem Rd1.at {m : Mem} {a : Option Addr} {l : List Value} (h : Rd1 m a l) {i : Nat} (hi : i < l.length) : ∃ b o, a = some ⟨b, o, none⟩ ∧ cellAt (m b) (o + i) = some l[i] := by
  rcases h with rfl | ⟨b, o, rfl, hc⟩
  · simp at hi
  · exact ⟨b, o, rfl, hc i _ (List.getElem?_eq_getElem hi)⟩
theorem Rd1.frame {m m' : Mem} {a : Option Addr} {l : List Value} (h : Rd1 m a l) (f : Fr m m' []) : Rd1 m' a l := by
  rcases h with rfl | ⟨b, o, rfl, hc⟩
  · exact .inl rfl
  · exact .inr ⟨b, o, rfl, fun i v hv => f.cellAt (hc i v hv) (by simp)⟩

def blkOf : Value → List Nat
  | .slice (some a) _ _ => [a.block]
  | _ => []

/-- a slice of the call's own: its row holds xs, and room behind it ('size' cells an element) -/
def Own (m : Mem) (t : TypeId) (size : Nat) (v : Value) (n : Nat) (xs : List Value) : Prop :=
  xs.length = n * size ∧ ((v = .slice none 0 0 ∧ n = 0) ∨ ∃ b cap tail, v = .slice (some ⟨b, 0, none⟩) n cap ∧ m b = some (.cells (xs ++ tail).toArray t (0, 0)) ∧ (xs ++ tail).length = cap * size)

theorem Own.nil (m : Mem) (t : TypeId) (size : Nat) : Own m t size (.slice none 0 0) 0 [] := ⟨by simp, .inl ⟨rfl, rfl⟩⟩
theorem Own.new {m : Mem} {t : TypeId} {size b n : Nat} {xs : List Value} (h : xs.length = n * size) : Own (m.set b (.cells xs.toArray t)) t size (.slice (some ⟨b, 0, none⟩) n n) n xs :=
  ⟨h, .inr ⟨b, n, [], rfl, by simp [Mem.set], by simpa using h⟩⟩
theorem Own.frame {m m' : Mem} {t : TypeId} {size n : Nat} {v : Value} {xs : List Value} {S : List Nat} (h : Own m t size v n xs) (f : Fr m m' S) (hS : ∀ b ∈ blkOf v, b ∉ S) : Own m' t size v n xs := by
  refine ⟨h.1, ?_⟩
  rcases h.2 with h | ⟨b, cap, tail, rfl, hb, hl⟩
  · exact .inl h
  · exact .inr ⟨b, cap, tail, rfl, f.get hb (hS b (by simp [blkOf])), hl⟩
theorem Own.frame0 {m m' : Mem} {t : TypeId} {size n : Nat} {v : Value} {xs : List Value} (h : Own m t size v n xs) (f : Fr m m' []) : Own m' t size v n xs := h.frame f (fun _ _ => by simp)
theorem Own.there {m : Mem} {t : TypeId} {size n : Nat} {v : Value} {xs : List Value} (h : Own m t size v n xs) : ∀ b ∈ blkOf v, m b ≠ none := by
  rcases h.2 with ⟨rfl, _⟩ | ⟨b, cap, tail, rfl, hb, _⟩
  · intro b hb; simp [blkOf] at hb
  · intro b' hb'; simp only [blkOf, List.mem_singleton] at hb'; subst hb'; rw [hb]; exact Option.some_ne_none _
theorem Own.form {m : Mem} {t : TypeId} {size n : Nat} {v : Value} {xs : List Value} (h : Own m t size v n xs) : ∃ a c, v = .slice a n c := by
  rcases h.2 with ⟨rfl, rfl⟩ | ⟨b, cap, tail, rfl, _⟩
  · exact ⟨_, _, rfl⟩
  · exact ⟨_, _, rfl⟩

theorem Own.row {m : Mem} {t : TypeId} {size n : Nat} {v : Value} {xs : List Value} (h : Own m t size v n xs) (hn : 0 < n) :
    ∃ b cap tail, v = .slice (some ⟨b, 0, none⟩) n cap ∧ m b = some (.cells (xs ++ tail).toArray t (0, 0)) ∧ n * size ≤ cap * size ∧ xs.length = n * size := by
  rcases h.2 with ⟨rfl, rfl⟩ | ⟨b, cap, tail, rfl, hb, hl⟩
  · omega
  · have := h.1
    simp only [List.length_append] at hl
    exact ⟨b, cap, tail, rfl, hb, by omega, h.1⟩
theorem Own.shrink {m : Mem} {t : TypeId} {size n c : Nat} {a : Option Addr} {xs : List Value} (h : Own m t size (.slice a n c) n xs) {k : Nat} (hk : k ≤ n) (hn : 0 < n) : Own m t size (.slice a k c) k (xs.take (k * size)) := by
  have hle : k * size ≤ n * size := Nat.mul_le_mul_right _ hk
  rcases h.2 with ⟨e, e'⟩ | ⟨b, cap, tail, e, hb, hl⟩
  · omega
  · cases e
    refine ⟨by rw [List.length_take, h.1]; omega, .inr ⟨b, c, xs.drop (k * size) ++ tail, rfl, ?_, ?_⟩⟩
    · rw [hb, ← List.append_assoc, List.take_append_drop]
    · rw [← hl]; simp only [List.length_append, List.length_take, List.length_drop, h.1]; omega

theorem ldCells_row {m : Mem} {b : Nat} {l : List Value} {t : TypeId} {fr : Nat × Nat} (hb : m b = some (.cells l.toArray t fr)) : ∀ (n i o : Nat), o + i + n ≤ l.length →
    ldCells m ⟨b, o, none⟩ i n = some ((l.drop (o + i)).take n)
  | 0, i, o, h => by simp [ldCells]
  | n + 1, i, o, h => by
    have hlt : o + i < l.length := by omega
    have hc : cell m (Addr.add ⟨b, o, none⟩ i) = some l[o + i] := by
      rw [add_mk, cell_mk, hb, cellAt_cells]; simp [hlt]
    rw [ldCells, hc, Option.bind_some, ldCells_row hb n (i + 1) o (by omega), Option.map_some]
    congr 1
    rw [List.drop_eq_getElem_cons hlt, List.take_succ_cons]; rfl

theorem set_same {m : Mem} {b : Nat} {o : Obj} (h : m b = some o) : m.set b o = m := by
  funext x; unfold Mem.set; split
  · rename_i e; subst e; exact h.symm
  · rfl

theorem stCells_row {t : TypeId} {b o : Nat} : ∀ (vs : List Value) (i : Nat) (m : Mem) (l : List Value), m b = some (.cells l.toArray t (0, 0)) → o + i + vs.length ≤ l.length → (∀ v ∈ vs, v.oneCell' = true) →
    stCells m ⟨b, o, none⟩ i vs = some (m.set b (.cells (l.take (o + i) ++ vs ++ l.drop (o + i + vs.length)).toArray t (0, 0)))
  | [], i, m, l, hb, _, _ => by
    simp only [stCells, List.append_nil, List.length_nil, Nat.add_zero, List.take_append_drop]
    rw [set_same hb]
  | v :: vs, i, m, l, hb, hl, h1 => by
    simp only [List.length_cons] at hl
    have hv := h1 v (List.mem_cons_self ..)
    have hlt : o + i < l.length := by omega
    simp only [stCells, hv, if_true]
    have hp : putC m (Addr.add ⟨b, o, none⟩ i) v = some (m.set b (.cells (l.set (o + i) v).toArray t (0, 0))) := by
      rw [add_mk, putC_mk, hb, putAt_cells _ _ _ _ (by simpa using hlt)]
      simp
    rw [hp, Option.bind_some, stCells_row vs (i + 1) _ (l.set (o + i) v) (t := t) (by simp [Mem.set]) (by simp; omega) (fun u hu => h1 u (List.mem_cons_of_mem _ hu)), set_set]
    congr 4
    rw [List.take_set, List.drop_set_of_lt (by omega), show o + (i + 1) = o + i + 1 from by omega, List.take_succ_eq_append_getElem hlt]
    rw [List.set_append_right _ _ (by simp; omega)]
    simp only [List.length_take, Nat.min_eq_left (Nat.le_of_lt hlt), Nat.sub_self, List.set_cons_zero, List.append_assoc, List.cons_append, List.nil_append, List.length_cons]
    rw [show o + i + 1 + vs.length = o + i + (vs.length + 1) from by omega]

/-- an append to a row of the call's own -/
theorem appP_own {t : TypeId} {size bytes : Nat} {zero : List Value} {x : Value} {m : Mem} {K : Value → Mem → Prop} {n k : Nat} {xs news : List Value}
    (h : Own m t size x n xs) (hk : news.length = k * size) (h1 : ∀ v ∈ news, v.oneCell' = true) (hz : zero.length = size)
    (hb : (n + k) * bytes ≤ 140737488355328) (h62 : n + k ≤ 4611686018427387904)
    (hK : ∀ v m', Own m' t size v (n + k) (xs ++ news) → Fr m m' (blkOf x) → (∀ b ∈ blkOf v, b ∈ blkOf x ∨ m b = none) → K v m') : ∃ a cap, x = .slice a n cap ∧ appP size bytes zero t m K a n cap news k := by
  obtain ⟨hlen, hx⟩ := h
  have hzl : ∀ j, ((List.replicate j zero).flatten).length = j * size := fun j => by simp [hz]
  rcases hx with ⟨rfl, rfl⟩ | ⟨bx, cap, tail, rfl, hbx, hcap⟩
  · have hxs : xs = [] := List.eq_nil_of_length_eq_zero (by simpa using hlen)
    subst hxs
    refine ⟨none, 0, rfl, hb, h62, fun hle => ?_, fun hlt => ⟨[], rfl, fun cc bb hcc hbb => ?_⟩⟩
    · have hk0 : k = 0 := by omega
      subst hk0
      have hn0 : news = [] := List.eq_nil_of_length_eq_zero (by simpa using hk)
      subst hn0
      exact hK _ _ ⟨by simp, .inl ⟨rfl, rfl⟩⟩ (Fr.refl _ _) (fun _ hb => .inl hb)
    · refine hK _ _ ⟨by simp [hk], .inr ⟨bb, cc, (List.replicate (cc - (0 + k)) zero).flatten, rfl, by simp [Mem.set], ?_⟩⟩ (Fr.new _ hbb) (fun b' hb' => ?_)
      · simp only [List.nil_append, List.length_append, hk, hzl]
        rw [← Nat.add_mul]; congr 1; omega
      · simp only [blkOf, List.mem_singleton] at hb'; subst hb'; exact .inr hbb
  · simp only [List.length_append] at hcap
    refine ⟨some ⟨bx, 0, none⟩, cap, rfl, hb, h62, fun hle => ?_, fun hlt => ?_⟩
    · have hle' : (n + k) * size ≤ cap * size := Nat.mul_le_mul_right _ hle
      rw [Nat.add_mul] at hle'
      have hst := stCells_row (t := t) (b := bx) (o := 0) news (n * size) m (xs ++ tail) hbx (by simp only [List.length_append]; omega) h1
      refine ⟨_, hst, hK _ _ ⟨by simp [hlen, hk, Nat.add_mul], .inr ⟨bx, cap, tail.drop news.length, rfl, ?_, ?_⟩⟩ (Fr.set (by simp [blkOf])) (fun _ hb => .inl hb)⟩
      · simp only [Mem.set, if_true, Nat.zero_add]
        congr 3
        rw [← hlen, List.take_left', List.append_assoc, List.append_assoc]
        · congr 2
          rw [List.drop_append]
          simp
        · rfl
      · simp only [List.length_append, List.length_drop]; omega
    · have hold : ldS m (some ⟨bx, 0, none⟩) (n * size) = some xs := by
        simp only [ldS]
        rw [ldCells_row hbx (n * size) 0 0 (by simp only [List.length_append]; omega)]
        simp [← hlen]
      refine ⟨xs, hold, fun cc bb hcc hbb => hK _ _ ⟨by simp [hlen, hk, Nat.add_mul], .inr ⟨bb, cc, (List.replicate (cc - (n + k)) zero).flatten, rfl, by simp [Mem.set], ?_⟩⟩ (Fr.new _ hbb) (fun b' hb' => ?_)⟩
      · simp only [List.length_append, hlen, hk, hzl]
        rw [← Nat.add_mul, ← Nat.add_mul]; congr 1; omega
      · simp only [blkOf, List.mem_singleton] at hb'; subst hb'; exact .inr hbb


/-- **'s = append(s, news...)', s the call's own.** -/
theorem app_own {P : Program} {t : TypeId} {size bytes : Nat} {zero : List Value} {x y : Value} {m : Mem} {K : Value → Mem → Prop} {l : Lk K} {l1 : Lk x} {l2 : Lk m} {n k c : Nat} {b : Option Addr} {xs news : List Value}
    (h : Own m t size x n xs) (hy : y = .slice b k c) (hnews : ldS m b (k * size) = some news) (hk : news.length = k * size) (h1 : ∀ v ∈ news, v.oneCell' = true) (hz : zero.length = size)
    (hb : (n + k) * bytes ≤ 140737488355328) (h62 : n + k ≤ 4611686018427387904)
    (hK : ∀ v m', Own m' t size v (n + k) (xs ++ news) → Fr m m' (blkOf x) → (∀ b ∈ blkOf v, b ∈ blkOf x ∨ m b = none) → K v m') : appQ P t size bytes zero x y m K l l1 l2 := by
  subst hy
  obtain ⟨a, cap, rfl, ha⟩ := appP_own (bytes := bytes) (zero := zero) h hk h1 hz hb h62 hK
  exact ⟨news, hnews, ha⟩
/-- a string's bytes are appended -/
def apsQ (P : Program) (t : TypeId) (x y : Value) (m : Mem) (K : Value → Mem → Prop) (_ : Lk K) (_ : Lk x) (_ : Lk m) : Prop := xs P (.apps t) [x, y] m K
theorem xs_apps {P : Program} {m : Mem} (t : TypeId) (x y : Value) (K : Value → Mem → Prop) (l : Lk K) : xsP P (.apps t) [x, y] m K l = apsQ P t x y m K ⟨⟩ ⟨⟩ ⟨⟩ := rfl
attribute [go_sem] xs_apps
theorem aps_own {P : Program} {t : TypeId} {x : Value} {m : Mem} {K : Value → Mem → Prop} {l : Lk K} {l1 : Lk x} {l2 : Lk m} {n : Nat} {s : ByteArray} {xs : List Value}
    (h : Own m t 1 x n xs) (hb : n + s.size ≤ 140737488355328)
    (hK : ∀ v m', Own m' t 1 v (n + s.size) (xs ++ s.data.toList.map fun (c : UInt8) => Value.int .u8 c.toNat) → Fr m m' (blkOf x) → (∀ b ∈ blkOf v, b ∈ blkOf x ∨ m b = none) → K v m') : apsQ P t x (.string s) m K l l1 l2 := by
  obtain ⟨a, cap, rfl, ha⟩ := appP_own (bytes := 1) (zero := [.int .u8 0]) (k := s.size) h (news := s.data.toList.map fun (c : UInt8) => Value.int .u8 c.toNat) (by rw [List.length_map, Array.length_toList, Nat.mul_one]; rfl) (by
    intro v hv
    obtain ⟨c, _, rfl⟩ := List.mem_map.1 hv
    rfl) rfl (by omega) (by omega) hK
  exact ha

end Go.Fw

/-! A great program's closed facts, one by one. -/
set_option linter.unusedVariables false
namespace Go.Fw
open Go
def J1 (P : Program) (f : FuncId) (fn : Func) (s : ChangeSpec) (c : OpenClaim) : Prop := OpenClaim.wf (OpenSpec.ofChange s) c = true
def J2 (P : Program) (f : FuncId) (fn : Func) (s : ChangeSpec) (c : OpenClaim) : Prop := laidOutB P = true
def J3 (P : Program) (f : FuncId) (fn : Func) (s : ChangeSpec) (c : OpenClaim) : Prop := mapsRowed P = true
def J4 (P : Program) (f : FuncId) (fn : Func) (s : ChangeSpec) (c : OpenClaim) : Prop := (fn.params.all fun x => P.readableRec x) = true
def J5 (P : Program) (f : FuncId) (fn : Func) (s : ChangeSpec) (c : OpenClaim) : Prop := namedTie P c.named s.vars = true
def J6 (P : Program) (f : FuncId) (fn : Func) (s : ChangeSpec) (c : OpenClaim) : Prop := (c.stops == []) = true
def J7 (P : Program) (f : FuncId) (fn : Func) (s : ChangeSpec) (c : OpenClaim) : Prop := (P.stops == []) = true
def J8 (P : Program) (f : FuncId) (fn : Func) (s : ChangeSpec) (c : OpenClaim) : Prop := (c.knobs == []) = true
def J9 (P : Program) (f : FuncId) (fn : Func) (s : ChangeSpec) (c : OpenClaim) : Prop := (P.stopKnobs == []) = true
def J10 (P : Program) (f : FuncId) (fn : Func) (s : ChangeSpec) (c : OpenClaim) : Prop := (c.inPlace == P.inPlace f) = true
def J11 (P : Program) (f : FuncId) (fn : Func) (s : ChangeSpec) (c : OpenClaim) : Prop := (c.unfollowed == P.unfollowed f) = true
def J12 (P : Program) (f : FuncId) (fn : Func) (s : ChangeSpec) (c : OpenClaim) : Prop := (c.recurses == P.recurses f) = true
def J13 (P : Program) (f : FuncId) (fn : Func) (s : ChangeSpec) (c : OpenClaim) : Prop := (c.named == P.varsNamed f) = true
def J14 (P : Program) (f : FuncId) (fn : Func) (s : ChangeSpec) (c : OpenClaim) : Prop := (c.maps == (fn.params.toList ++ DataSpec.varTypes P s.plain).any fun x => P.mapsRec x) = true
def J15 (P : Program) (f : FuncId) (fn : Func) (s : ChangeSpec) (c : OpenClaim) : Prop := (c.ifaces == (fn.params.toList ++ DataSpec.varTypes P s.plain).any fun x => P.ifacesRec x) = true
def J16 (P : Program) (f : FuncId) (fn : Func) (s : ChangeSpec) (c : OpenClaim) : Prop := (c.mapsOut == P.mapsAmong fn.resultTypes.toList) = true
def J17 (P : Program) (f : FuncId) (fn : Func) (s : ChangeSpec) (c : OpenClaim) : Prop := (c.loops == (fn.params.toList ++ DataSpec.varTypes P s.plain).any fun x => P.loopsFrom x) = true
def J18 (P : Program) (f : FuncId) (fn : Func) (s : ChangeSpec) (c : OpenClaim) : Prop := (c.wideKeys == (fn.params.toList ++ DataSpec.varTypes P s.plain ++ fn.resultTypes.toList).any fun x => P.wideKeysFrom x) = true
def J19 (P : Program) (f : FuncId) (fn : Func) (s : ChangeSpec) (c : OpenClaim) : Prop := (s.vars.all fun x => P.varReadable x) = true
def J20 (P : Program) (f : FuncId) (fn : Func) (s : ChangeSpec) (c : OpenClaim) : Prop := (fn.resultTypes.all fun t => P.readableRec t && decide (t < P.types.size)) = true
def J21 (P : Program) (f : FuncId) (fn : Func) (s : ChangeSpec) (c : OpenClaim) : Prop := (c.ifacesOut == fn.resultTypes.toList.any fun x => P.ifacesRec x) = true
def J22 (P : Program) (f : FuncId) (fn : Func) (s : ChangeSpec) (c : OpenClaim) : Prop := (c.loopsOut == fn.resultTypes.toList.any fun x => P.loopsFrom x) = true
def J23 (P : Program) (f : FuncId) (fn : Func) (s : ChangeSpec) (c : OpenClaim) : Prop := (c.plainKeys == P.plainKeys) = true
def J24 (P : Program) (f : FuncId) (fn : Func) (s : ChangeSpec) (c : OpenClaim) : Prop := c.shortTexts.isNone = true
def J25 (P : Program) (f : FuncId) (fn : Func) (s : ChangeSpec) (c : OpenClaim) : Prop := P.stopsHeard = true
def J26 (P : Program) (f : FuncId) (fn : Func) (s : ChangeSpec) (c : OpenClaim) : Prop := P.mayEnter = true
def J27 (P : Program) (f : FuncId) (fn : Func) (s : ChangeSpec) (c : OpenClaim) : Prop := (c.lifted == P.liftsFinal) = true
def J28 (P : Program) (f : FuncId) (fn : Func) (s : ChangeSpec) (c : OpenClaim) : Prop := (P.make == some c.make) = true
def J29 (P : Program) (f : FuncId) (fn : Func) (s : ChangeSpec) (c : OpenClaim) : Prop := (c.kinds == if c.domain.isEmpty = true then [] else List.map (fun t => match P.underlying t with | some (TypeDesc.int k) => some k | x => none) fn.params.toList) = true
def J30 (P : Program) (f : FuncId) (fn : Func) (s : ChangeSpec) (c : OpenClaim) : Prop := (c.pinned == c.pinnedBy) = true
def J31 (P : Program) (f : FuncId) (fn : Func) (s : ChangeSpec) (c : OpenClaim) : Prop := (c.veiled == (fn.params.toList ++ DataSpec.varTypes P s.plain ++ fn.resultTypes.toList).any fun x => P.veiledRec x) = true
def J32 (P : Program) (f : FuncId) (fn : Func) (s : ChangeSpec) (c : OpenClaim) : Prop := c.veiledFits P fn.params.toList (fn.params.toList ++ DataSpec.varTypes P s.plain ++ fn.resultTypes.toList) = true
theorem joined_of {P : Program} {f : FuncId} {fn : Func} {s : ChangeSpec} {c : OpenClaim} (h1 : J1 P f fn s c) (h2 : J2 P f fn s c) (h3 : J3 P f fn s c) (h4 : J4 P f fn s c) (h5 : J5 P f fn s c) (h6 : J6 P f fn s c) (h7 : J7 P f fn s c) (h8 : J8 P f fn s c) (h9 : J9 P f fn s c) (h10 : J10 P f fn s c) (h11 : J11 P f fn s c) (h12 : J12 P f fn s c) (h13 : J13 P f fn s c) (h14 : J14 P f fn s c) (h15 : J15 P f fn s c) (h16 : J16 P f fn s c) (h17 : J17 P f fn s c) (h18 : J18 P f fn s c) (h19 : J19 P f fn s c) (h20 : J20 P f fn s c) (h21 : J21 P f fn s c) (h22 : J22 P f fn s c) (h23 : J23 P f fn s c) (h24 : J24 P f fn s c) (h25 : J25 P f fn s c) (h26 : J26 P f fn s c) (h27 : J27 P f fn s c) (h28 : J28 P f fn s c) (h29 : J29 P f fn s c) (h30 : J30 P f fn s c) (h31 : J31 P f fn s c) (h32 : J32 P f fn s c) : joinedFacts P f fn s c = true := by
  unfold J1 J2 J3 J4 J5 J6 J7 J8 J9 J10 J11 J12 J13 J14 J15 J16 J17 J18 J19 J20 J21 J22 J23 J24 J25 J26 J27 J28 J29 J30 J31 J32 at *
  unfold joinedFacts
  rw [h1, h2, h3, h4, h5, h6, h7, h8, h9, h10, h11, h12, h13, h14, h15, h16, h17, h18, h19, h20, h21, h22, h23, h24, h25, h26, h27, h28, h30, h31, h32]
  simp only [Bool.and_true, Bool.true_and]
  exact h29
theorem goes_none {P : Program} {c : OpenClaim} (h : (P.funcs.any Func.goes) = false) (hs : c.start = .entering) : false = c.goesBy P := by
  have hf : ∀ g : Nat, (P.funcs[g]?).any Func.goes = false := fun g => by
    cases hg : P.funcs[g]? with
    | none => rfl
    | some fn =>
      obtain ⟨hlt, e⟩ := Array.getElem?_eq_some_iff.1 hg
      have h2 : ¬ (∃ (i : Nat) (hi : i < P.funcs.size), Func.goes P.funcs[i] = true) := fun hx => by
        have := Array.any_eq_true.2 hx
        rw [this] at h; cases h
      cases hq : Func.goes fn with
      | false => simp [hq]
      | true => exact (h2 ⟨g, hlt, by rw [e]; exact hq⟩).elim
  have hg : ∀ f : FuncId, P.goes f = false := fun f => by
    unfold Program.goes
    rw [h, Bool.and_false, Bool.or_false]
    exact List.any_eq_false.2 fun g _ => by simp [hf g]
  unfold OpenClaim.goesBy Program.goesAt Program.goesFrom
  rw [hs, Bool.or_false]
  cases P.funcNamed c.func with
  | none => rfl
  | some f => exact (hg f).symm
end Go.Fw
