import Derived.Test.YtadkdbnikmkgfaaFvSim
namespace Go.Fw

section sim
variable {P : Program} {ops : Array Oper} {base : Nat → Value} {nd : List Nd} {tp : List Nat} {qt : List Bool} {N : Nat} {outs : List (Nat × X)} {K : Env → Mem → Prop}

theorem firstQ_some {ns : List Nat} {D i : Nat} (h : firstQ ns tp qt D = some i) : i ∈ ns ∧ D.testBit i = false ∧ qt.getD i false = true ∧ ∀ k, (tp.getD i 0).testBit k = true → D.testBit k = true := by
  unfold firstQ at h
  have h1 := List.find?_some h
  simp only [Bool.and_eq_true, Bool.not_eq_true'] at h1
  exact ⟨List.mem_of_find?_eq_some h, h1.1.1, h1.1.2, and_sub h1.2⟩

theorem firstQ_none {ns : List Nat} {D : Nat} (h : firstQ ns tp qt D = none) {i : Nat} (hi : i ∈ ns) (hq : qt.getD i false = true)
    (hp : ∀ k, (tp.getD i 0).testBit k = true → D.testBit k = true) : D.testBit i = true := by
  unfold firstQ at h
  have h1 := List.find?_eq_none.1 h i hi
  have hand : ((tp.getD i 0) &&& D == tp.getD i 0) = true := by
    simp only [beq_iff_eq]
    apply Nat.eq_of_testBit_eq
    intro k
    rw [Nat.testBit_and]
    cases hb : (tp.getD i 0).testBit k
    · rfl
    · simp [hp k hb]
  cases hD : D.testBit i
  · rw [hD, hand, hq] at h1
    exact absurd rfl h1
  · rfl

theorem mv_guard {i : Nat} {x : Operand} {o : Oper} (hm : mvOf ops i = some x) (ho : ops[i]? = some o) : o.guard = none ∧ (o.op = .move x ∨ o.op = .assign x) := by
  unfold mvOf at hm
  rw [ho] at hm
  simp only at hm
  split at hm
  · rename_i hg
    refine ⟨by simpa using hg, ?_⟩
    split at hm
    · rename_i y hop; simp only [Option.some.injEq] at hm; subst hm; exact .inl hop
    · rename_i y hop; simp only [Option.some.injEq] at hm; subst hm; exact .inr hop
    · cases hm
  · cases hm

theorem QF.of_mv {vals : Nat → Value} {m : Mem} {i : Nat} {x : Operand} (hm : mvOf ops i = some x) (hv : vals i = opv ops base vals i x) : QF P ops base vals m i := by
  intro o ro xl ho hr
  obtain ⟨hg, hop⟩ := mv_guard hm ho
  have hr' : ro = .mv ∧ xl = [x] := by
    obtain ⟨dst, op, type, pos, after, guard⟩ := o
    rcases hop with rfl | rfl <;> (simp only [res] at hr; obtain ⟨rfl, rfl⟩ := some_pair hr; exact ⟨rfl, rfl⟩)
  obtain ⟨rfl, rfl⟩ := hr'
  refine ⟨rfl, fun _ => ?_, fun h => ?_⟩
  · simp only [List.map_cons, List.map_nil, rd, rdp, RO.reads]
    rw [← hv]
  · simp [wantV, hg] at h

theorem opv_upd (ok : RegOK P ops nd tp qt N) {D : Nat} {vals : Nat → Value} {i : Nat} {o : Oper} (ho : ops[i]? = some o) (hD : D.testBit i = false)
    (hp : ∀ k, (tp.getD i 0).testBit k = true → D.testBit k = true) (v : Value) {x : Operand} (hx : ∀ t, x = .tmp t → t ∈ o.looksAt ops) :
    opv ops base (upd vals i v) i x = opv ops base vals i x :=
  opv_congr fun t j e hw => by
    have := pred_done ok ho hp (hx t e) hw
    exact upd_ne _ (fun e => by subst e; rw [hD] at this; cases this)

theorem want_upd (ok : RegOK P ops nd tp qt N) {D : Nat} {vals : Nat → Value} {i : Nat} {o : Oper} (ho : ops[i]? = some o) (hD : D.testBit i = false)
    (hp : ∀ k, (tp.getD i 0).testBit k = true → D.testBit k = true) (v : Value) : wantV ops base (upd vals i v) i o = wantV ops base vals i o := by
  unfold wantV
  cases hgu : o.guard with
  | none => rfl
  | some jw =>
    obtain ⟨j, want⟩ := jw
    simp only
    cases hd : dstAt ops j with
    | none => rfl
    | some d =>
      simp only
      rw [opv_upd (base := base) ok ho hD hp v (x := .tmp d) (fun t e => by cases e; exact guard_looks hgu hd)]

/-- all that can be taken without doing anything is taken -/
theorem advance (ok : RegOK P ops nd tp qt N) : ∀ (f D : Nat) (σ : Env) (vals : Nat → Value) (m : Mem), Can ops base tp D σ vals →
    etP P base (mkT (List.range ops.size) nd tp qt outs f D) σ m K →
    ∃ f' D' σ' vals', Can ops base tp D' σ' vals' ∧ firstQ (List.range ops.size) tp qt D' = none ∧ etP P base (mkT (List.range ops.size) nd tp qt outs (f' + 1) D') σ' m K ∧
      (∀ i, D.testBit i = true → D'.testBit i = true ∧ vals' i = vals i) ∧ (∀ i, D'.testBit i = true → D.testBit i = true ∨ QF P ops base vals' m i)
  | 0, D, σ, vals, m, _, h => by simp [mkT, etP] at h
  | f + 1, D, σ, vals, m, c, h => by
    cases hq : firstQ (List.range ops.size) tp qt D with
    | none => exact ⟨f, D, σ, vals, c, hq, h, fun i hi => ⟨hi, rfl⟩, fun i hi => .inl hi⟩
    | some i =>
      obtain ⟨hin, hD, hqi, hp⟩ := firstQ_some hq
      have hi : i < ops.size := by simpa using hin
      obtain ⟨d, hd, hnd⟩ := ok.hnd i hi
      obtain ⟨o, ro, xl, g, ho, hr, hk, hg, hde⟩ := nd_parts hnd
      have hquiet : ro.quiet = true := by
        have := ok.hqt i d hi hd
        rw [List.getD_eq_getElem?_getD, this] at hqi
        rw [hde] at hqi
        simpa using hqi
      simp only [mkT, hq, hd] at h
      -- the step, given the value
      have step : ∀ (v : Value) (σ1 : Env), (mvOf ops i = none → σ1 = (i, v) :: σ) → (∀ x, mvOf ops i = some x → σ1 = σ ∧ v = opv ops base vals i x) →
          QF P ops base (upd vals i v) m i → etP P base (mkT (List.range ops.size) nd tp qt outs f (D ||| 2 ^ i)) σ1 m K →
          ∃ f' D' σ' vals', Can ops base tp D' σ' vals' ∧ firstQ (List.range ops.size) tp qt D' = none ∧ etP P base (mkT (List.range ops.size) nd tp qt outs (f' + 1) D') σ' m K ∧
            (∀ i, D.testBit i = true → D'.testBit i = true ∧ vals' i = vals i) ∧ (∀ i, D'.testBit i = true → D.testBit i = true ∨ QF P ops base vals' m i) := by
        intro v σ1 h1 h2 hqf het
        have c1 := c.add ok hi hD hp v σ1 h1 h2
        obtain ⟨f', D', σ', vals', c', hq', het', hk', hn'⟩ := advance ok f (D ||| 2 ^ i) σ1 (upd vals i v) m c1 het
        have hiD' : D'.testBit i = true := (hk' i (by rw [testBit_or_pow]; simp)).1
        refine ⟨f', D', σ', vals', c', hq', het', fun k hkD => ?_, fun k hkD => ?_⟩
        · have := hk' k (by rw [testBit_or_pow]; simp [hkD])
          refine ⟨this.1, this.2.trans (upd_ne v (fun e => by subst e; rw [hD] at hkD; cases hkD))⟩
        · rcases hn' k hkD with h' | h'
          · rw [testBit_or_pow] at h'
            by_cases e : k = i
            · subst e
              refine .inr ?_
              exact QF.keep (D := D ||| 2 ^ k) ok hnd (by rw [testBit_or_pow]; simp) (fun j hj => by rw [testBit_or_pow]; simp [hp j hj]) (fun j hj => (hk' j hj).2) hqf
            · simp only [e, decide_false, Bool.or_false] at h'
              exact .inl h'
          · exact .inr h'
      cases hm : mvOf ops i with
      | some x =>
        have hmv : d.mv = true := by rw [hde]; simp [hm]
        simp only [hmv, if_true] at h
        obtain ⟨o', ho', hl⟩ := mvOf_looks hm
        rw [ho] at ho'; cases ho'
        exact step (opv ops base vals i x) σ (fun e => by rw [hm] at e; cases e) (fun x' e => by rw [hm] at e; cases e; exact ⟨rfl, rfl⟩)
          (QF.of_mv hm (by rw [upd_self]; exact (opv_upd (base := base) ok ho hD hp _ hl).symm)) h
      | none =>
        have hmv : d.mv = false := by rw [hde]; simp [hm]
        simp only [hmv, Bool.false_eq_true, if_false, etP] at h
        rw [hde] at h
        simp only at h
        have hgw := gd_want (base := base) ok c hi ho hp hg h
        have hav := args_ev (base := base) ok c hi ho hp hk
        cases hw : wantV ops base vals i o with
        | true =>
          obtain ⟨v, hv, het⟩ := hgw.1 hw
          rw [hav] at hv
          refine step v ((i, v) :: σ) (fun _ => rfl) (fun x e => by rw [hm] at e; cases e) ?_ het
          intro o' ro' xl' ho' hr'
          rw [ho] at ho'; cases ho'
          rw [hr] at hr'; cases hr'
          refine ⟨hquiet, fun _ => ?_, fun h0 => ?_⟩
          · rw [upd_self, ← hv]
            congr 1
            exact List.map_congr_left fun x hx => opv_upd (base := base) ok ho hD hp v (fun t e => by subst e; exact ok_mem hk hx)
          · rw [want_upd (base := base) ok ho hD hp v, hw] at h0; cases h0
        | false =>
          have het := hgw.2 hw
          refine step undef ((i, undef) :: σ) (fun _ => rfl) (fun x e => by rw [hm] at e; cases e) ?_ het
          intro o' ro' xl' ho' hr'
          rw [ho] at ho'; cases ho'
          rw [hr] at hr'; cases hr'
          refine ⟨hquiet, fun h0 => ?_, fun _ => upd_self _ _ _⟩
          rw [want_upd (base := base) ok ho hD hp undef, hw] at h0; cases h0

/-! ### the run itself -/
def lkW (ops : Array Oper) (listed : Array Bool) (t : Nat) : Nat → Option Nat
  | 0 => none
  | k + 1 => if dstAt ops k = some t ∧ listed.getD k false = true then some k else lkW ops listed t k
def fv (base : Nat → Value) (vals : Nat → Value) (t : Nat) : Option Nat → Value
  | none => base t
  | some j => vals j

structure Fri (ops : Array Oper) (base : Nat → Value) (N : Nat) (listed : Array Bool) (a : Act) (vals : Nat → Value) : Prop where
  size : a.tmps.size = N
  defers : a.defers = []
  at_ : ∀ t, a.tmps.getD t undef = fv base vals t (lkW ops listed t ops.size)

def Closed (tp : List Nat) (listed : Array Bool) : Prop := ∀ j, listed.getD j false = true → ∀ k, (tp.getD j 0).testBit k = true → listed.getD k false = true

theorem lkW_lt {listed : Array Bool} {t : Nat} : ∀ {n j : Nat}, lkW ops listed t n = some j → j < n ∧ dstAt ops j = some t ∧ listed.getD j false = true
  | 0, _, h => by simp [lkW] at h
  | k + 1, j, h => by
    simp only [lkW] at h
    split at h
    · rename_i e; simp only [Option.some.injEq] at h; subst h; exact ⟨Nat.lt_succ_self _, e⟩
    · have := lkW_lt h; exact ⟨by omega, this.2⟩

/-- what an operation that may come now finds in a slot -/
theorem lkW_ready (ok : RegOK P ops nd tp qt N) {listed : Array Bool} (cl : Closed tp listed) {i : Nat} {o : Oper} (ho : ops[i]? = some o) (hu : listed.getD i false = false)
    (hp : ∀ k, (tp.getD i 0).testBit k = true → listed.getD k false = true) {t : Nat} (ht : t ∈ o.looksAt ops) :
    ∀ n, lkW ops listed t n = lastW ops t (min n i)
  | 0 => by simp [lkW, lastW]
  | k + 1 => by
    have ih := lkW_ready ok cl ho hu hp ht k
    simp only [lkW]
    by_cases hd : dstAt ops k = some t
    · rcases Nat.lt_trichotomy k i with h | h | h
      · have : listed.getD k false = true := hp k (looks_ap ok h ho hd ht)
        rw [if_pos ⟨hd, this⟩, show min (k + 1) i = k + 1 from by omega]
        simp [lastW, hd]
      · subst h
        rw [if_neg (by rw [hu]; simp), ih]
        congr 1; omega
      · have hb := looks_ap' ok h ho hd ht
        have : ¬ listed.getD k false = true := fun e => by rw [cl k e i hb] at hu; cases hu
        rw [if_neg (fun e => this e.2), ih]
        congr 1; omega
    · rw [if_neg (fun e => hd e.1), ih]
      rcases Nat.lt_or_ge k i with h | h
      · rw [show min k i = k from by omega, show min (k + 1) i = k + 1 from by omega]
        simp [lastW, hd]
      · congr 1; omega

theorem opv_act (ok : RegOK P ops nd tp qt N) {listed : Array Bool} (cl : Closed tp listed) {i : Nat} {o : Oper} (hi : i < ops.size) (ho : ops[i]? = some o) (hu : listed.getD i false = false)
    (hp : ∀ k, (tp.getD i 0).testBit k = true → listed.getD k false = true) {a : Act} {vals : Nat → Value} (fr : Fri ops base N listed a vals) {x : Operand} (hx : ∀ t, x = .tmp t → t ∈ o.looksAt ops) :
    a.eval x = opv ops base vals i x := by
  cases x with
  | tmp t =>
    simp only [Act.eval, opv]
    have := fr.at_ t
    rw [lkW_ready ok cl ho hu hp (hx t rfl), show min ops.size i = i from by omega] at this
    rw [this]
    cases lastW ops t i <;> rfl
  | const v => rfl
  | global g => rfl
  | func f => rfl

theorem want_act (ok : RegOK P ops nd tp qt N) {listed : Array Bool} (cl : Closed tp listed) {i : Nat} {o : Oper} {g : Gd} (hi : i < ops.size) (ho : ops[i]? = some o) (hg : gdOf ops i o = some g) (hu : listed.getD i false = false)
    (hp : ∀ k, (tp.getD i 0).testBit k = true → listed.getD k false = true) {a : Act} {vals : Nat → Value} (fr : Fri ops base N listed a vals) :
    Region.wanted o (yielded ops a.tmps) = wantV ops base vals i o := by
  unfold Region.wanted wantV
  cases hgu : o.guard with
  | none => rfl
  | some jw =>
    obtain ⟨j, want⟩ := jw
    simp only
    unfold gdOf at hg
    simp only [hgu] at hg
    obtain ⟨d, hd, _⟩ := Option.map_eq_some_iff.1 hg
    simp only [hd]
    have e := opv_act (base := base) ok cl hi ho hu hp fr (x := .tmp d) (fun t e => by cases e; exact guard_looks hgu hd)
    rw [← e]
    have : yielded ops a.tmps j = asB (a.eval (.tmp d)) := by
      unfold yielded
      unfold dstAt at hd
      rw [hd]
      simp only [Option.bind_some, Act.eval]
      rcases Nat.lt_or_ge d a.tmps.size with h | h
      · simp only [Array.getElem?_eq_getElem h, Array.getD, h, dite_true]
        cases hv : a.tmps[d] <;> simp [asB, hv]
      · have h1 : a.tmps.getD d undef = undef := by simp [Array.getD, Nat.not_lt.2 h]
        rw [Array.getElem?_eq_none h, h1]; rfl
    rw [this]

theorem getD_set {listed : Array Bool} {i k : Nat} (hi : i < listed.size) : (listed.setIfInBounds i true).getD k false = (decide (k = i) || listed.getD k false) := by
  by_cases e : k = i
  · subst e; simp [hi]
  · have : i ≠ k := fun h => e h.symm
    simp [Array.getElem?_setIfInBounds_ne this, e]

theorem lkW_set (ok : RegOK P ops nd tp qt N) {listed : Array Bool} (cl : Closed tp listed) {i : Nat} (hl : i < listed.size) (hu : listed.getD i false = false) (t : Nat) :
    ∀ n, lkW ops (listed.setIfInBounds i true) t n = if dstAt ops i = some t ∧ i < n then some i else lkW ops listed t n
  | 0 => by simp [lkW]
  | k + 1 => by
    have ih := lkW_set ok cl hl hu t k
    simp only [lkW, getD_set hl, ih]
    by_cases hd : dstAt ops k = some t
    · by_cases e : k = i
      · subst e; simp [hd]
      · simp only [hd, e, decide_false, Bool.false_or, true_and]
        by_cases hk : listed.getD k false = true
        · rw [if_pos hk]
          by_cases hdi : dstAt ops i = some t ∧ i < k + 1
          · have hik : i < k := by omega
            have := cl k hk i (dst_ap ok hik hdi.1 hd)
            rw [hu] at this; cases this
          · rw [if_neg hdi, if_pos hk]
        · rw [if_neg hk, if_neg hk]
          by_cases hdi : dstAt ops i = some t
          · by_cases h : i < k
            · rw [if_pos ⟨hdi, h⟩, if_pos ⟨hdi, by omega⟩]
            · rw [if_neg (fun e => h e.2), if_neg (fun e => by omega)]
          · rw [if_neg (fun e => hdi e.1), if_neg (fun e => hdi e.1)]
    · rw [if_neg (fun e => hd e.1), if_neg (fun e : dstAt ops k = some t ∧ _ => hd e.1)]
      by_cases hdi : dstAt ops i = some t
      · have hne : k ≠ i := fun e => by subst e; exact hd hdi
        by_cases h : i < k
        · rw [if_pos ⟨hdi, h⟩, if_pos ⟨hdi, by omega⟩]
        · rw [if_neg (fun e => h e.2), if_neg (fun e => by omega)]
      · rw [if_neg (fun e => hdi e.1), if_neg (fun e => hdi e.1)]

theorem Fri.put (ok : RegOK P ops nd tp qt N) {listed : Array Bool} (cl : Closed tp listed) {i : Nat} {o : Oper} (hi : i < ops.size) (ho : ops[i]? = some o) (hl : i < listed.size) (hu : listed.getD i false = false)
    {a : Act} {vals vals' : Nat → Value} (fr : Fri ops base N listed a vals) (hv : ∀ k, listed.getD k false = true → vals' k = vals k) {v : Value} (hvi : vals' i = v) :
    Fri ops base N (listed.setIfInBounds i true) (a.put o.dst v) vals' := by
  have hdo : dstAt ops i = o.dst := by simp [dstAt, ho]
  have hold : ∀ t n, fv base vals' t (lkW ops listed t n) = fv base vals t (lkW ops listed t n) := fun t n => by
    cases h : lkW ops listed t n with
    | none => rfl
    | some j => exact hv j (lkW_lt h).2.2
  cases hd : o.dst with
  | none =>
    rw [hd] at hdo
    refine ⟨fr.size, fr.defers, fun t => ?_⟩
    rw [lkW_set ok cl hl hu t, if_neg (fun e => by rw [hdo] at e; cases e.1), hold]
    exact fr.at_ t
  | some d =>
    rw [hd] at hdo
    have hdN := ok.hdst i d hdo
    refine ⟨by simp [Act.put, fr.size], fr.defers, fun t => ?_⟩
    rw [lkW_set ok cl hl hu t]
    by_cases e : t = d
    · subst e
      rw [if_pos ⟨hdo, hi⟩]
      simp only [fv, hvi, Act.put]
      have : t < a.tmps.size := by rw [fr.size]; exact hdN
      simp [this]
    · rw [if_neg (fun h => by rw [hdo] at h; exact e (Option.some.inj h.1).symm), hold]
      rw [← fr.at_ t]
      simp only [Act.put]
      have : d ≠ t := fun h => e h.symm
      simp [Array.getElem?_setIfInBounds_ne this]

end sim
end Go.Fw
