import Derived.Test.YtadkdbnikmkgfaaFvCode
import Derived.Deep.LoopGhost
/-! Bodies of functions. -/
namespace Go.Fw

inductive NC where
  | skip
  | reg (et : ET) (ins : List Nat)
  | seq (a b : NC)
  | cond (x : X) (a b : NC)
  | block (id : Nat) (c : NC)
  | loop (ks : List Nat) (c : NC)
  | exit (id : Nat)
  | ret
  deriving Inhabited

/-! ### sets of slots -/
def addS (t : Nat) : List Nat → List Nat
  | [] => [t]
  | u :: r => if t < u then t :: u :: r else if t = u then u :: r else u :: addS t r
def unS (a b : List Nat) : List Nat := a.foldl (fun s t => addS t s) b
def delS (t : Nat) (l : List Nat) : List Nat := l.filter (· != t)
def tmpsOf (l : List Operand) : List Nat := l.filterMap fun | .tmp t => some t | _ => none
def opLive (ops : Array Oper) (o : Oper) (lo : List Nat) : List Nat :=
  unS (o.looksAt ops) (match o.dst with | some d => delS d lo | none => lo)
def liveIn (rets : List Nat) : Code → List Nat → List (Nat × List Nat) → List Nat
  | .skip, lo, _ => lo
  | .region _ ops _, lo, _ => ops.toList.foldr (opLive ops) lo
  | .seq a b, lo, ex => liveIn rets a (liveIn rets b lo ex) ex
  | .cond c a b, lo, ex => unS (tmpsOf [c]) (unS (liveIn rets a lo ex) (liveIn rets b lo ex))
  | .block id c, lo, ex => liveIn rets c lo ((id, lo) :: ex)
  | .loop c, _, ex => liveIn rets c [] ex
  | .exit id, _, ex => (ex.lookup id).getD []
  | .ret, _, _ => rets
  | _, lo, _ => lo

def comp (P : Program) (N : Nat) (rets : List Nat) : Code → List Nat → List (Nat × List Nat) → Option (NC × List Nat)
  | .skip, lo, _ => some (.skip, lo)
  | .region _ ops draw, lo, _ => (regTree P N ops draw lo).map fun et => (.reg et (unS et.used []), unS et.used [])
  | .seq a b, lo, ex => (comp P N rets b lo ex).bind fun rb => (comp P N rets a rb.2 ex).map fun ra => (.seq ra.1 rb.1, ra.2)
  | .cond c a b, lo, ex => (comp P N rets a lo ex).bind fun ra => (comp P N rets b lo ex).bind fun rb =>
    match c with
    | .tmp t => some (.cond (.slot t) ra.1 rb.1, addS t (unS ra.2 rb.2))
    | .const v => some (.cond (.const v) ra.1 rb.1, unS ra.2 rb.2)
    | _ => none
  | .block id c, lo, ex => (comp P N rets c lo ((id, lo) :: ex)).map fun rc => (.block id rc.1, rc.2)
  | .loop c, _, ex => (comp P N rets c (liveIn rets c [] ex) ex).map fun rc => (.loop (liveIn rets c [] ex) rc.1, liveIn rets c [] ex)
  | .exit id, _, ex => some (.exit id, (ex.lookup id).getD [])
  | .ret, _, _ => some (.ret, rets)
  | _, _, _ => none

def hasAll (L : Env) (ks : List Nat) : Bool := ks.all L.has
def only (L : Env) (ks : List Nat) : Env := ks.map fun k => (k, L.get k)
def thenN (next : Env → Mem → Prop) (Q : Exit → Env → Mem → Prop) : Exit → Env → Mem → Prop
  | .normal, L, m => next L m
  | e, L, m => Q e L m
def blockN (id : Nat) (Q : Exit → Env → Mem → Prop) : Exit → Env → Mem → Prop
  | .exit id', L, m => if id' = id then Q .normal L m else Q (.exit id') L m
  | e, L, m => Q e L m
def roundN (ks : List Nat) (I : Nat → Env → Mem → Prop) (n : Nat) (Q : Exit → Env → Mem → Prop) : Exit → Env → Mem → Prop
  | .normal, L, m => hasAll L ks = true ∧ ∃ n', n' < n ∧ I n' (only L ks) m
  | e, L, m => Q e L m
def bP (t : Bool) (A B : Prop) : Prop := (t = true → A) ∧ (t = false → B)
def condP (v : Value) (A B : Prop) : Prop := ∃ t, v = .bool t ∧ bP t A B

def loopP (ks : List Nat) (body : (Exit → Env → Mem → Prop) → Env → Mem → Prop) (Q : Exit → Env → Mem → Prop) (L : Env) (m : Mem) : Prop :=
  hasAll L ks = true ∧ ∃ I : Nat → Env → Mem → Prop, (∃ n, I n (only L ks) m) ∧ ∀ n L m, I n L m → body (roundN ks I n Q) L m

def wpN (P : Program) : NC → (Exit → Env → Mem → Prop) → Env → Mem → Prop
  | .skip, Q, L, m => Q .normal L m
  | .reg et ins, Q, L, m => hasAll L ins = true ∧ etP P L.get et [] m fun L' m' => Q .normal L' m'
  | .seq a b, Q, L, m => wpN P a (thenN (wpN P b Q) Q) L m
  | .cond x a b, Q, L, m => hasAll L x.used = true ∧ condP (x.ev L.get []) (wpN P a Q L m) (wpN P b Q L m)
  | .block id c, Q, L, m => wpN P c (blockN id Q) L m
  | .loop ks c, Q, L, m => loopP ks (wpN P c) Q L m
  | .exit id, Q, L, m => Q (.exit id) L m
  | .ret, Q, L, m => Q .ret L m

def Knows (a : Act) (L : Env) : Prop := ∀ t, L.has t = true → a.tmps.getD t undef = L.get t

theorem knows_pairs {a : Act} {L : Env} (h : ∀ p ∈ L, a.tmps.getD p.1 undef = p.2) : Knows a L := by
  induction L with
  | nil => intro t ht; simp [Env.has] at ht
  | cons p r ih =>
    obtain ⟨j, v⟩ := p
    intro t ht
    simp only [Env.get]
    by_cases e : t = j
    · subst e; rw [if_pos rfl]; exact h _ (List.mem_cons_self ..)
    · rw [if_neg e]
      simp only [Env.has, Bool.or_eq_true, beq_iff_eq, e, false_or] at ht
      exact ih (fun p hp => h p (List.mem_cons_of_mem _ hp)) t ht

theorem knows_only {a : Act} {L : Env} {ks : List Nat} (h : Knows a L) (hk : hasAll L ks = true) : Knows a (only L ks) := by
  apply knows_pairs
  intro p hp
  obtain ⟨k, hk', rfl⟩ := List.mem_map.1 hp
  exact h k (List.all_eq_true.1 hk k hk')

/-- what stands behind a piece of code, as the model asks it -/
def QQ (N : Nat) (w0 : World) (Q : Exit → Env → Mem → Prop) (e : Exit) (a : Act) (w : World) : Prop :=
  a.tmps.size = N ∧ a.defers = [] ∧ Side w0 w ∧ ∃ L, Knows a L ∧ Q e L (absM w)

theorem mem_addS {t u : Nat} : ∀ {l : List Nat}, u ∈ addS t l ↔ u = t ∨ u ∈ l
  | [] => by simp [addS]
  | x :: r => by
    simp only [addS]
    split
    · simp
    · split
      · rename_i h; subst h; simp
      · simp only [List.mem_cons, mem_addS (l := r)]
        constructor
        · rintro (h | h | h) <;> simp [h]
        · rintro (h | h | h) <;> simp [h]
theorem mem_unS {u : Nat} : ∀ {a b : List Nat}, u ∈ unS a b ↔ u ∈ a ∨ u ∈ b
  | [], b => by simp [unS]
  | x :: r, b => by
    have := mem_unS (u := u) (a := r) (b := addS x b)
    simp only [unS, List.foldl_cons] at this ⊢
    rw [this, mem_addS]
    simp only [List.mem_cons]
    constructor
    · rintro (h | h | h) <;> simp [h]
    · rintro ((h | h) | h) <;> simp [h]

theorem comp_sound {P : Program} {N : Nat} {rets : List Nat} (hm : P.follows .mixedOrders = true) : ∀ (c : Code) (lo : List Nat) (ex : List (Nat × List Nat)) (nc : NC) (li : List Nat),
    comp P N rets c lo ex = some (nc, li) → ∀ (Q : Exit → Env → Mem → Prop) (w0 w : World) (a : Act) (L : Env), a.tmps.size = N → a.defers = [] → Side w0 w → Knows a L → wpN P nc Q L (absM w) → c.wp P (QQ N w0 Q) a w := by
  intro c
  induction c with
  | skip =>
    intro lo ex nc li h Q w0 w a L hN hd hs hk hw
    simp only [comp, Option.some.injEq, Prod.mk.injEq] at h
    obtain ⟨rfl, rfl⟩ := h
    exact wp_skip ⟨hN, hd, hs, L, hk, hw⟩
  | region id ops draw =>
    intro lo ex nc li h Q w0 w a L hN hd hs hk hw
    simp only [comp] at h
    obtain ⟨et, het, h⟩ := Option.map_eq_some_iff.1 h
    obtain ⟨rfl, rfl⟩ := Prod.mk.injEq .. ▸ h
    obtain ⟨hins, hw⟩ := hw
    refine region_sound het hm (K := fun L' m' => Q .normal L' m') hN hd (fun a' w' L' hs' hN' hd' hp hK => ⟨hN', hd', hs.trans hs', L', knows_pairs hp, hK⟩) ?_
    refine etP_congr et [] (absM w) (fun t ht => ?_) hw
    have := List.all_eq_true.1 hins t (mem_unS.2 (.inl ht))
    exact (hk t this).symm
  | seq x y ihx ihy =>
    intro lo ex nc li h Q w0 w a L hN hd hs hk hw
    simp only [comp] at h
    obtain ⟨⟨nb, lb⟩, hb, h⟩ := Option.bind_eq_some_iff.1 h
    obtain ⟨⟨na, la⟩, ha, h⟩ := Option.map_eq_some_iff.1 h
    obtain ⟨rfl, rfl⟩ := Prod.mk.injEq .. ▸ h
    refine wp_seq (wp_mono (ihx _ _ _ _ ha _ w0 w a L hN hd hs hk hw) ?_)
    intro e a' w' ⟨hN', hd', hs', L', hk', hq⟩
    cases e with
    | normal => exact ihy _ _ _ _ hb Q w0 w' a' L' hN' hd' hs' hk' hq
    | _ => exact ⟨hN', hd', hs', L', hk', hq⟩
  | cond c x y ihx ihy =>
    intro lo ex nc li h Q w0 w a L hN hd hs hk hw
    simp only [comp] at h
    obtain ⟨⟨na, la⟩, ha, h⟩ := Option.bind_eq_some_iff.1 h
    obtain ⟨⟨nb, lb⟩, hb, h⟩ := Option.bind_eq_some_iff.1 h
    have key : ∀ xx : X, hasAll L xx.used = true → condP (xx.ev L.get []) (wpN P na Q L (absM w)) (wpN P nb Q L (absM w)) → a.eval c = xx.ev L.get [] → (Code.cond c x y).wp P (QQ N w0 Q) a w := by
      rintro xx - ⟨t, ht, hb'⟩ he
      refine wp_cond_split (t := t) (he.trans ht) (fun e => ?_) (fun e => ?_)
      · exact ihx _ _ _ _ ha Q w0 w a L hN hd hs hk (hb'.1 e)
      · exact ihy _ _ _ _ hb Q w0 w a L hN hd hs hk (hb'.2 e)
    cases c with
    | tmp t =>
      simp only [Option.some.injEq, Prod.mk.injEq] at h
      obtain ⟨rfl, rfl⟩ := h
      refine key _ hw.1 hw.2 ?_
      have h1 : L.has t = true := List.all_eq_true.1 hw.1 t (by simp [X.used])
      exact hk t h1
    | const v =>
      simp only [Option.some.injEq, Prod.mk.injEq] at h
      obtain ⟨rfl, rfl⟩ := h
      exact key _ hw.1 hw.2 rfl
    | global g => simp at h
    | func g => simp at h
  | block id x ih =>
    intro lo ex nc li h Q w0 w a L hN hd hs hk hw
    simp only [comp] at h
    obtain ⟨⟨na, la⟩, ha, h⟩ := Option.map_eq_some_iff.1 h
    obtain ⟨rfl, rfl⟩ := Prod.mk.injEq .. ▸ h
    refine wp_block (wp_mono (ih _ _ _ _ ha _ w0 w a L hN hd hs hk hw) ?_)
    intro e a' w' ⟨hN', hd', hs', L', hk', hq⟩
    cases e with
    | exit id' =>
      simp only [blockN] at hq
      simp only [Exit.inBlock]
      split
      · rename_i e; rw [if_pos e] at hq; exact ⟨hN', hd', hs', L', hk', hq⟩
      · rename_i e; rw [if_neg e] at hq; exact ⟨hN', hd', hs', L', hk', hq⟩
    | _ => exact ⟨hN', hd', hs', L', hk', hq⟩
  | loop x ih =>
    intro lo ex nc li h Q w0 w a L hN hd hs hk hw
    simp only [comp] at h
    obtain ⟨⟨na, la⟩, ha, h⟩ := Option.map_eq_some_iff.1 h
    obtain ⟨rfl, rfl⟩ := Prod.mk.injEq .. ▸ h
    obtain ⟨hall, I, ⟨n0, hI0⟩, hround⟩ := hw
    refine wp_loop_ghost (fun n a w => a.tmps.size = N ∧ a.defers = [] ∧ Side w0 w ∧ ∃ L, Knows a L ∧ I n L (absM w)) n0 ⟨hN, hd, hs, _, knows_only hk hall, hI0⟩ ?_
    rintro n a1 w1 ⟨hN1, hd1, hs1, L1, hk1, hI1⟩
    refine wp_mono (ih _ _ _ _ ha _ w0 w1 a1 L1 hN1 hd1 hs1 hk1 (hround n L1 _ hI1)) ?_
    intro e a' w' ⟨hN', hd', hs', L', hk', hq⟩
    cases e with
    | normal =>
      obtain ⟨hall', n', hlt, hI'⟩ := hq
      exact ⟨n', hlt, hN', hd', hs', _, knows_only hk' hall', hI'⟩
    | _ => exact ⟨hN', hd', hs', L', hk', hq⟩
  | exit id =>
    intro lo ex nc li h Q w0 w a L hN hd hs hk hw
    simp only [comp, Option.some.injEq, Prod.mk.injEq] at h
    obtain ⟨rfl, rfl⟩ := h
    exact wp_exit ⟨hN, hd, hs, L, hk, hw⟩
  | ret =>
    intro lo ex nc li h Q w0 w a L hN hd hs hk hw
    simp only [comp, Option.some.injEq, Prod.mk.injEq] at h
    obtain ⟨rfl, rfl⟩ := h
    exact wp_ret ⟨hN, hd, hs, L, hk, hw⟩
  | _ => intro lo ex nc li h; simp [comp] at h

/-! ### a function -/
inductive RV where
  | slot (t : Nat)
  | cell (t : Nat)
  | cells (t n : Nat)
  deriving Inhabited
def RV.slotOf : RV → Nat
  | .slot t | .cell t | .cells t _ => t
def rvOf (P : Program) : ResultVar → Option RV
  | .tmp t => some (.slot t)
  | .cell a t => if plainT P t then some (.cell a) else if aggT P t then (P.info? t).map fun i => .cells a i.size else none
def RV.val (L : Env) (m : Mem) : RV → Option Value
  | .slot t => some (L.get t)
  | .cell t => rd .ld [L.get t] m
  | .cells t n => rd (.lda n) [L.get t] m
def valsOf (L : Env) (m : Mem) : List RV → Option (List Value)
  | [] => some []
  | r :: l => (r.val L m).bind fun v => (valsOf L m l).map (v :: ·)
def tupleV : List Value → Value
  | [v] => v
  | l => .tuple l.toArray
def zipP : Nat → List Value → Env
  | _, [] => []
  | i, v :: r => (i, v) :: zipP (i + 1) r

def retP (rvs : List RV) (R : Value → Mem → Prop) : Exit → Env → Mem → Prop
  | .normal, L, m | .ret, L, m => hasAll L (rvs.map RV.slotOf) = true ∧ ∃ vs, valsOf L m rvs = some vs ∧ R (tupleV vs) m
  | _, _, _ => False

structure FN where
  code : NC
  rvs : List RV
  deriving Inhabited

def compF (P : Program) (fn : Func) : Option FN :=
  (fn.results.toList.mapM (rvOf P)).bind fun rvs => (fn.body).bind fun c =>
    (comp P fn.ntmps (unS (rvs.map RV.slotOf) []) c (unS (rvs.map RV.slotOf) []) []).map fun r => ⟨r.1, rvs⟩

theorem zipP_get : ∀ (l : List Value) (i t : Nat), (zipP i l).has t = true → i ≤ t ∧ l[t - i]? = some ((zipP i l).get t)
  | [], i, t, h => by simp [zipP, Env.has] at h
  | v :: r, i, t, h => by
    simp only [zipP, Env.has, Bool.or_eq_true, beq_iff_eq] at h
    simp only [zipP, Env.get]
    by_cases e : t = i
    · subst e; simp
    · rw [if_neg e]
      have := zipP_get r (i + 1) t (h.resolve_left e)
      refine ⟨by omega, ?_⟩
      rw [show t - i = (t - (i + 1)) + 1 from by omega, List.getElem?_cons_succ]
      exact this.2

def rvSem (tmps : Array Value) : ResultVar → Sem Value
  | .tmp t => pure (tmps.getD t undef)
  | .cell a t => do loadVar t (← asAddr (tmps.getD a undef))

theorem run_rv {P : Program} {rv : ResultVar} {r : RV} (h : rvOf P rv = some r) {tmps : Array Value} {L : Env} {w : World} (hk : L.has r.slotOf = true → tmps.getD r.slotOf undef = L.get r.slotOf) (hh : L.has r.slotOf = true)
    {v : Value} (hv : r.val L (absM w) = some v) :
    (rvSem tmps rv).run P w = .ok v w := by
  unfold rvSem
  cases rv with
  | tmp t =>
    simp only [rvOf, Option.some.injEq] at h; subst h
    simp only [RV.val, Option.some.injEq] at hv; subst hv
    simp only [RV.slotOf] at hk hh
    simp [hk hh]
  | cell a t =>
    simp only [rvOf] at h
    split at h
    · rename_i hp
      simp only [Option.some.injEq] at h; subst h
      simp only [RV.slotOf] at hk hh
      obtain ⟨ad, hx, e⟩ := p1_inv hv
      simp [hk hh, hx, asAddr, loadVar, isAgg_plain hp, run_load_cell (m := absM w) rfl e, -run_load]
    · split at h
      · rename_i hp
        obtain ⟨i, hi, rfl⟩ := Option.map_eq_some_iff.1 h
        simp only [RV.slotOf] at hk hh
        obtain ⟨ad, hx, e⟩ := p1_inv hv
        obtain ⟨l, hl, rfl⟩ := Option.map_eq_some_iff.1 e
        simp [hk hh, hx, asAddr, loadVar, isAgg_agg hp, run_sizeOf' hi, loadCells, run_loadCellsFrom (m := absM w) rfl ad _ _ _ _ hl]
      · cases h

theorem run_rvs {P : Program} {tmps : Array Value} {L : Env} {w : World} : ∀ (rs : List ResultVar) (rvs : List RV), rs.mapM (rvOf P) = some rvs → (∀ t, L.has t = true → tmps.getD t undef = L.get t) → hasAll L (rvs.map RV.slotOf) = true →
    ∀ vs, valsOf L (absM w) rvs = some vs → (rs.mapM (rvSem tmps)).run P w = .ok vs w
  | [], rvs, h, _, _, vs, hv => by
    simp only [List.mapM_nil, pure, Option.some.injEq] at h; subst h
    simp only [valsOf, Option.some.injEq] at hv; subst hv
    rfl
  | rv :: rs, rvs, h, hk, hh, vs, hv => by
    simp only [List.mapM_cons, bind, pure, Option.bind_eq_some_iff, Option.some.injEq] at h
    obtain ⟨r, hr, l, hl, rfl⟩ := h
    simp only [valsOf] at hv
    obtain ⟨v, hv1, hv⟩ := Option.bind_eq_some_iff.1 hv
    obtain ⟨vs', hv2, rfl⟩ := Option.map_eq_some_iff.1 hv
    simp only [hasAll, List.map_cons, List.all_cons, Bool.and_eq_true] at hh
    have h1 := run_rv hr (tmps := tmps) (hk r.slotOf) hh.1 hv1
    have h2 := run_rvs rs l hl hk hh.2 vs' hv2
    simp only [List.mapM_cons, Sem.run_bind, h1, Result.andThen_ok, h2, Sem.run_pure]

theorem run_results {P : Program} {fn : Func} {rvs : List RV} (h : fn.results.toList.mapM (rvOf P) = some rvs) {tmps : Array Value} {L : Env} {w : World} (hk : ∀ t, L.has t = true → tmps.getD t undef = L.get t)
    (hh : hasAll L (rvs.map RV.slotOf) = true) {vs : List Value} (hv : valsOf L (absM w) rvs = some vs) : (results fn tmps).run P w = .ok (tupleV vs) w := by
  have hres : results fn tmps = (do let vs ← fn.results.mapM (rvSem tmps); pure (if h : vs.size = 1 then vs[0] else .tuple vs)) := rfl
  rw [hres]
  have := run_rvs (P := P) (w := w) fn.results.toList rvs h hk hh vs hv
  rw [Array.mapM_eq_mapM_toList]
  simp only [Sem.run_bind, Sem.run_map, this, Result.andThen_ok, Sem.run_pure]
  congr 1
  match vs with
  | [] => rfl
  | [v] => rfl
  | v :: u :: r => simp [tupleV]

/-- **A FUNCTION's CONTRACT, OUT OF ITS BODY.** -/
theorem MC_of {P : Program} {f : Nat} {fn : Func} {F : FN} (hf : P.funcs[f]? = some fn) (hc : compF P fn = some F) (hm : P.follows .mixedOrders = true) {args : List Value} {m : Mem} {R : Value → Mem → Prop}
    (hn : args.length ≤ fn.ntmps) (h : wpN P F.code (retP F.rvs R) (zipP 0 args) m) : MC P f args m R := by
  unfold compF at hc
  obtain ⟨rvs, hrv, hc⟩ := Option.bind_eq_some_iff.1 hc
  obtain ⟨c, hb, hc⟩ := Option.bind_eq_some_iff.1 hc
  obtain ⟨⟨nc, li⟩, hcomp, rfl⟩ := Option.map_eq_some_iff.1 hc
  intro w hw
  subst hw
  refine calls_of_wp hf hb ?_
  refine wp_mono (comp_sound hm c _ _ nc li hcomp _ w w _ (zipP 0 args) ?_ rfl (Side.rfl' w) ?_ h) ?_
  · simp; omega
  · intro t ht
    obtain ⟨_, h1⟩ := zipP_get args 0 t ht
    have hlt : t < args.length := (List.getElem?_eq_some_iff.1 h1).1
    simp only [Nat.sub_zero] at h1
    simp only [Array.getD_eq_getD_getElem?]
    rw [Array.getElem?_append_left (by simpa using hlt)]
    simp [h1]
  · intro e a' w' ⟨hN', hd', hs', L', hk', hq⟩
    cases e with
    | normal =>
      obtain ⟨hh, vs, hv, hR⟩ := hq
      exact ⟨hd', _, run_results hrv hk' hh hv, _, rfl, hs', hR⟩
    | ret =>
      obtain ⟨hh, vs, hv, hR⟩ := hq
      exact ⟨hd', _, run_results hrv hk' hh hv, _, rfl, hs', hR⟩
    | _ => exact hq.elim

end Go.Fw
