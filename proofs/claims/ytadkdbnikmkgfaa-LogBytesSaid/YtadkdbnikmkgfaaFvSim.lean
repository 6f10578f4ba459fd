import Derived.Test.YtadkdbnikmkgfaaFvReg
namespace Go.Fw

section sim
variable {P : Program} {ops : Array Oper} {base : Nat → Value}

def opv (ops : Array Oper) (base : Nat → Value) (vals : Nat → Value) (i : Nat) : Operand → Value
  | .tmp t => (match lastW ops t i with | none => base t | some j => vals j)
  | .const v => v
  | .global g => .pointer (some ⟨g, 0, none⟩)
  | .func f => .func (.func f) #[] #[]

def wantV (ops : Array Oper) (base : Nat → Value) (vals : Nat → Value) (i : Nat) (o : Oper) : Bool :=
  match o.guard with
  | none => true
  | some (j, want) => match dstAt ops j with
    | some d => asB (opv ops base vals i (.tmp d)) == some want
    | none => false

theorem lastW_lt {t : Nat} : ∀ {i j : Nat}, lastW ops t i = some j → j < i ∧ dstAt ops j = some t
  | 0, _, h => by simp [lastW] at h
  | k + 1, j, h => by
    simp only [lastW] at h
    split at h
    · rename_i e; simp only [Option.some.injEq] at h; subst h; exact ⟨Nat.lt_succ_self _, e⟩
    · have := lastW_lt h; exact ⟨by omega, this.2⟩

/-- What is checked of a region, as facts. -/
structure RegOK (P : Program) (ops : Array Oper) (nd : List Nd) (tp : List Nat) (qt : List Bool) (N : Nat) : Prop where
  ap : ∀ i j oi oj, i < j → ops[i]? = some oi → ops[j]? = some oj → (tp.getD j 0).testBit i = true ∨ oi.apart ops oj = true
  hnd : ∀ i, i < ops.size → ∃ d, nd[i]? = some d ∧ ndOf P ops i = some d
  hqt : ∀ i d, i < ops.size → nd[i]? = some d → qt[i]? = some d.ro.quiet
  hdst : ∀ i d, dstAt ops i = some d → d < N

/-- .. and of one that draws its order. -/
structure RegDr (ops : Array Oper) (tp : List Nat) : Prop where
  back : ∀ i o, ops[i]? = some o → ∀ e ∈ o.after, Region.binds .any e = true → e.on < i
  htp : ∀ i o, ops[i]? = some o → ∀ k, (tp.getD i 0).testBit k = true → ∃ e ∈ o.after, Region.binds .any e = true ∧ (k = e.on ∨ (tp.getD e.on 0).testBit k = true)

variable {nd : List Nd} {tp : List Nat} {qt : List Bool} {N : Nat}

theorem looks_ap {i j : Nat} {oi : Oper} {t : Nat} (ok : RegOK P ops nd tp qt N) (hlt : j < i) (hi : ops[i]? = some oi) (hj : dstAt ops j = some t) (ht : t ∈ oi.looksAt ops) : (tp.getD i 0).testBit j = true := by
  unfold dstAt at hj
  obtain ⟨oj, hoj, hd⟩ := Option.bind_eq_some_iff.1 hj
  rcases ok.ap j i oj oi hlt hoj hi with h | h
  · exact h
  · exact absurd ht ((Oper.apart_spec h).1 t hd)
theorem looks_ap' {i k : Nat} {oi : Oper} {t : Nat} (ok : RegOK P ops nd tp qt N) (hlt : i < k) (hi : ops[i]? = some oi) (hk : dstAt ops k = some t) (ht : t ∈ oi.looksAt ops) : (tp.getD k 0).testBit i = true := by
  unfold dstAt at hk
  obtain ⟨ok', hok, hd⟩ := Option.bind_eq_some_iff.1 hk
  rcases ok.ap i k oi ok' hlt hi hok with h | h
  · exact h
  · exact absurd ht ((Oper.apart_spec h).2.2 t hd)
theorem dst_ap {i k : Nat} {t : Nat} (ok : RegOK P ops nd tp qt N) (hlt : i < k) (hi : dstAt ops i = some t) (hk : dstAt ops k = some t) : (tp.getD k 0).testBit i = true := by
  unfold dstAt at hi hk
  obtain ⟨oi, hoi, hdi⟩ := Option.bind_eq_some_iff.1 hi
  obtain ⟨ok', hok, hd⟩ := Option.bind_eq_some_iff.1 hk
  rcases ok.ap i k oi ok' hlt hoi hok with h | h
  · exact h
  · exact absurd hd ((Oper.apart_spec h).2.1 t hdi)

/-- the canonical run's state -/
structure Can (ops : Array Oper) (base : Nat → Value) (tp : List Nat) (D : Nat) (σ : Env) (vals : Nat → Value) : Prop where
  closed : ∀ i, D.testBit i = true → ∀ k, (tp.getD i 0).testBit k = true → D.testBit k = true
  sg : ∀ i, D.testBit i = true → mvOf ops i = none → σ.get i = vals i
  mv : ∀ i x, D.testBit i = true → mvOf ops i = some x → vals i = opv ops base vals i x

theorem mvOf_looks {j : Nat} {x : Operand} (h : mvOf ops j = some x) : ∃ o, ops[j]? = some o ∧ ∀ t, x = .tmp t → t ∈ o.looksAt ops := by
  unfold mvOf at h
  split at h
  · rename_i o ho
    refine ⟨o, ho, fun t hx => ?_⟩
    split at h
    · split at h
      · rename_i y hop; simp only [Option.some.injEq] at h; subst h; subst hx; simp [Oper.looksAt, hop, Op.operands]
      · rename_i y hop; simp only [Option.some.injEq] at h; subst h; subst hx; simp [Oper.looksAt, hop, Op.operands]
      · cases h
    · cases h
  · cases h

theorem nx_ev (ok : RegOK P ops nd tp qt N) {D : Nat} {σ : Env} {vals : Nat → Value} (c : Can ops base tp D σ vals) :
    ∀ f j, j < f → D.testBit j = true → (nx ops f j).ev base σ = vals j
  | 0, j, h, _ => absurd h (by omega)
  | f + 1, j, h, hj => by
    simp only [nx]
    cases hm : mvOf ops j with
    | none => simpa [X.ev] using c.sg j hj hm
    | some x =>
      have hv := c.mv j x hj hm
      obtain ⟨o, ho, hl⟩ := mvOf_looks hm
      cases x with
      | tmp t =>
        simp only
        cases hw : lastW ops t j with
        | none => simp only [X.ev]; rw [hv]; simp [opv, hw]
        | some k =>
          obtain ⟨hk, hd⟩ := lastW_lt hw
          have hb := looks_ap ok hk ho hd (hl t rfl)
          rw [hv]
          simp only [opv, hw]
          exact nx_ev ok c f k (by omega) (c.closed j hj k hb)
      | const v => rw [hv]; rfl
      | global g => rw [hv]; rfl
      | func g => rw [hv]; rfl

theorem src_ev (ok : RegOK P ops nd tp qt N) {D : Nat} {σ : Env} {vals : Nat → Value} (c : Can ops base tp D σ vals) {i : Nat} (hi : i ≤ ops.size)
    {x : Operand} (hx : ∀ t j, x = .tmp t → lastW ops t i = some j → D.testBit j = true) : (src ops i x).ev base σ = opv ops base vals i x := by
  cases x with
  | tmp t =>
    simp only [src, opv]
    cases hw : lastW ops t i with
    | none => rfl
    | some j => exact nx_ev ok c _ j (by have := (lastW_lt hw).1; omega) (hx t j rfl hw)
  | const v => rfl
  | global g => rfl
  | func g => rfl

theorem opv_congr {vals vals' : Nat → Value} {i : Nat} {x : Operand} (h : ∀ t j, x = .tmp t → lastW ops t i = some j → vals j = vals' j) : opv ops base vals i x = opv ops base vals' i x := by
  cases x with
  | tmp t =>
    simp only [opv]
    cases hw : lastW ops t i with
    | none => rfl
    | some j => exact h t j rfl hw
  | _ => rfl

/-- operand's last writers are done, when the predecessors are -/
theorem pred_done (ok : RegOK P ops nd tp qt N) {D : Nat} {i : Nat} {o : Oper} (ho : ops[i]? = some o) (hp : ∀ k, (tp.getD i 0).testBit k = true → D.testBit k = true)
    {t j : Nat} (ht : t ∈ o.looksAt ops) (hw : lastW ops t i = some j) : D.testBit j = true := by
  obtain ⟨hlt, hd⟩ := lastW_lt hw
  exact hp _ (looks_ap ok hlt ho hd ht)

def upd (vals : Nat → Value) (i : Nat) (v : Value) : Nat → Value := fun k => if k = i then v else vals k

theorem upd_self (vals : Nat → Value) (i : Nat) (v : Value) : upd vals i v i = v := by simp [upd]
theorem upd_ne {vals : Nat → Value} {i k : Nat} (v : Value) (h : k ≠ i) : upd vals i v k = vals k := by simp [upd, h]

/-- what a quiet operation that was taken early has yielded, it yields now -/
def QF (P : Program) (ops : Array Oper) (base : Nat → Value) (vals : Nat → Value) (m : Mem) (i : Nat) : Prop :=
  ∀ o ro xl, ops[i]? = some o → res P o = some (ro, xl) → ro.quiet = true ∧
    (wantV ops base vals i o = true → rd ro (xl.map (opv ops base vals i)) m = some (vals i)) ∧ (wantV ops base vals i o = false → vals i = undef)

theorem nd_parts {i : Nat} {d : Nd} (h : ndOf P ops i = some d) : ∃ o ro xl g, ops[i]? = some o ∧ res P o = some (ro, xl) ∧ xl.all (okX (o.looksAt ops)) = true ∧ gdOf ops i o = some g ∧
    d = ⟨ro, xl.map (src ops i), g, (mvOf ops i).isSome⟩ := by
  unfold ndOf at h
  obtain ⟨o, ho, h⟩ := Option.bind_eq_some_iff.1 h
  obtain ⟨⟨ro, xl⟩, hr, h⟩ := Option.bind_eq_some_iff.1 h
  split at h
  · rename_i hk
    obtain ⟨g, hg, h⟩ := Option.map_eq_some_iff.1 h
    exact ⟨o, ro, xl, g, ho, hr, hk, hg, h.symm⟩
  · cases h

theorem ok_mem {l : List Nat} {xl : List Operand} (h : xl.all (okX l) = true) {t : Nat} (ht : .tmp t ∈ xl) : t ∈ l := by
  have := List.all_eq_true.1 h _ ht
  simpa [okX] using this

theorem guard_looks {o : Oper} {j : Nat} {want : Bool} {d : Nat} (hg : o.guard = some (j, want)) (hd : dstAt ops j = some d) : d ∈ o.looksAt ops := by
  unfold Oper.looksAt
  refine List.mem_append_right _ ?_
  unfold dstAt at hd
  simp [hg, hd]

/-- the tree's guard is the operation's -/
theorem gd_want (ok : RegOK P ops nd tp qt N) {D : Nat} {σ : Env} {vals : Nat → Value} (c : Can ops base tp D σ vals) {i : Nat} {o : Oper} {g : Gd} (hi : i < ops.size) (ho : ops[i]? = some o)
    (hp : ∀ k, (tp.getD i 0).testBit k = true → D.testBit k = true) (hg : gdOf ops i o = some g) {yes no : Prop} (h : gP base σ g yes no) :
    (wantV ops base vals i o = true → yes) ∧ (wantV ops base vals i o = false → no) := by
  unfold gdOf at hg
  unfold wantV
  cases hgu : o.guard with
  | none => simp only [hgu, Option.some.injEq] at hg; subst hg; exact ⟨fun _ => h, fun h0 => by cases h0⟩
  | some jw =>
    obtain ⟨j, want⟩ := jw
    simp only [hgu] at hg
    obtain ⟨d, hd, rfl⟩ := Option.map_eq_some_iff.1 hg
    simp only [hd]
    have e := src_ev (base := base) ok c (Nat.le_of_lt hi) (x := .tmp d) (fun t k ht hw => by
      cases ht; exact pred_done ok ho hp (guard_looks hgu hd) hw)
    simp only [gP] at h
    rw [e] at h
    constructor
    · intro hb; exact h.1 (by simpa using hb)
    · intro hb; exact h.2 (by simpa using hb)

theorem args_ev (ok : RegOK P ops nd tp qt N) {D : Nat} {σ : Env} {vals : Nat → Value} (c : Can ops base tp D σ vals) {i : Nat} {o : Oper} {xl : List Operand} (hi : i < ops.size) (ho : ops[i]? = some o)
    (hp : ∀ k, (tp.getD i 0).testBit k = true → D.testBit k = true) (hk : xl.all (okX (o.looksAt ops)) = true) :
    (xl.map (src ops i)).map (X.ev base σ) = xl.map (opv ops base vals i) := by
  rw [List.map_map]
  refine List.map_congr_left fun x hx => ?_
  exact src_ev (base := base) ok c (Nat.le_of_lt hi) (fun t j ht hw => by subst ht; exact pred_done ok ho hp (ok_mem hk hx) hw)

theorem testBit_or_pow (D i k : Nat) : (D ||| 2 ^ i).testBit k = (D.testBit k || decide (k = i)) := by
  rw [Nat.testBit_or, Nat.testBit_two_pow]
  congr 1
  by_cases h : i = k <;> simp [h, eq_comm]

theorem and_sub {a D : Nat} (h : (a &&& D == a) = true) : ∀ k, a.testBit k = true → D.testBit k = true := by
  intro k hk
  have h' : a &&& D = a := by simpa using h
  rw [← h', Nat.testBit_and] at hk
  simpa using (Bool.and_eq_true _ _ ▸ hk).2

/-- one more is done -/
theorem Can.add (ok : RegOK P ops nd tp qt N) {D : Nat} {σ : Env} {vals : Nat → Value} (c : Can ops base tp D σ vals) {i : Nat} (hi : i < ops.size) (hD : D.testBit i = false)
    (hp : ∀ k, (tp.getD i 0).testBit k = true → D.testBit k = true) (v : Value) (σ' : Env)
    (hm : mvOf ops i = none → σ' = (i, v) :: σ) (hm' : ∀ x, mvOf ops i = some x → σ' = σ ∧ v = opv ops base vals i x) :
    Can ops base tp (D ||| 2 ^ i) σ' (upd vals i v) := by
  have hne : ∀ k, D.testBit k = true → k ≠ i := fun k hk e => by subst e; rw [hD] at hk; cases hk
  constructor
  · intro k hk j hj
    rw [testBit_or_pow] at hk ⊢
    by_cases e : k = i
    · subst e; simp [hp j hj]
    · simp only [e, decide_false, Bool.or_false] at hk
      simp [c.closed k hk j hj]
  · intro k hk hmk
    rw [testBit_or_pow] at hk
    by_cases e : k = i
    · subst e; rw [hm hmk, upd_self]; simp [Env.get]
    · simp only [e, decide_false, Bool.or_false] at hk
      rw [upd_ne v e]
      cases hmi : mvOf ops i with
      | none => rw [hm hmi]; simp only [Env.get, if_neg e]; exact c.sg k hk hmk
      | some x => rw [(hm' x hmi).1]; exact c.sg k hk hmk
  · intro k x hk hmk
    rw [testBit_or_pow] at hk
    obtain ⟨o, ho, hl⟩ := mvOf_looks hmk
    by_cases e : k = i
    · subst e
      rw [upd_self, (hm' x hmk).2]
      exact opv_congr fun t j ht hw => by
        have := hne j (pred_done ok ho hp (hl t ht) hw)
        rw [upd_ne _ this]
    · simp only [e, decide_false, Bool.or_false] at hk
      rw [upd_ne v e, c.mv k x hk hmk]
      exact opv_congr fun t j ht hw => by
        have := hne j (pred_done ok ho (c.closed k hk) (hl t ht) hw)
        rw [upd_ne _ this]

/-- what was known of the done ones stays known -/
theorem QF.keep (ok : RegOK P ops nd tp qt N) {D : Nat} {vals vals' : Nat → Value} {m : Mem} {i : Nat} {d : Nd} (hi : ndOf P ops i = some d) (hiD : D.testBit i = true)
    (hp : ∀ k, (tp.getD i 0).testBit k = true → D.testBit k = true)
    (hv : ∀ k, D.testBit k = true → vals' k = vals k) (h : QF P ops base vals m i) : QF P ops base vals' m i := by
  obtain ⟨o, ro, xl, g, ho, hr, hk, hg, rfl⟩ := nd_parts hi
  intro o' ro' xl' ho' hr'
  rw [ho] at ho'; cases ho'
  rw [hr] at hr'; cases hr'
  have ho'' := h o ro xl ho hr
  have hopv : ∀ t, t ∈ o.looksAt ops → opv ops base vals' i (.tmp t) = opv ops base vals i (.tmp t) := fun t ht =>
    opv_congr fun t' j e hw => by cases e; exact hv j (pred_done ok ho hp ht hw)
  have hw : wantV ops base vals' i o = wantV ops base vals i o := by
    unfold wantV
    cases hgu : o.guard with
    | none => rfl
    | some jw =>
      obtain ⟨j, want⟩ := jw
      simp only
      cases hd : dstAt ops j with
      | none => rfl
      | some d => simp only; rw [hopv d (guard_looks hgu hd)]
  have hx : xl.map (opv ops base vals' i) = xl.map (opv ops base vals i) := List.map_congr_left fun x hx => by
    cases x with
    | tmp t => exact hopv t (ok_mem hk hx)
    | _ => rfl
  refine ⟨ho''.1, fun h1 => ?_, fun h1 => ?_⟩
  · rw [hx, hv i hiD]; exact ho''.2.1 (hw ▸ h1)
  · rw [hv i hiD]; exact ho''.2.2 (hw ▸ h1)

end sim
end Go.Fw
