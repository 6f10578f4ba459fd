import Derived.Test.YtadkdbnikmkgfaaFvSim2
namespace Go.Fw

section sim
variable {P : Program} {ops : Array Oper} {base : Nat → Value} {nd : List Nd} {tp : List Nat} {qt : List Bool} {N : Nat} {outs : List (Nat × X)} {K : Env → Mem → Prop}

theorem rd_indep {ro : RO} (h : ro.reads = false) (args : List Value) (m m' : Mem) : rd ro args m = rd ro args m' := by
  simp only [rd, h]

theorem wp_of_xstep {o : Oper} {a : Act} {w : World} {Kx : Value → Mem → Prop} {next : Act → World → Prop} {Q : Exit → Act → World → Prop}
    (h : XStep P o a.eval (absM w) Kx) (hn : ∀ v w', Side w w' → Kx v (absM w') → next (a.put o.dst v) w') : o.wp P a w next Q := by
  have h1 := h w rfl
  unfold Oper.wp
  generalize (execOp a.eval o).run P w = r at *
  cases r with
  | halt x w' => exact h1.elim
  | ok n w' =>
    cases n <;> simp only [XUpon] at h1 <;> simp only [Oper.upon] <;> first | exact h1.elim | skip
    · exact hn _ _ h1.1 h1.2
    · exact hn _ _ h1.1 h1.2
    · exact h1.2.mono fun e w'' ⟨v, he, hs, hk⟩ => by subst he; exact hn _ _ (h1.1.trans hs) hk

theorem allOf_mem {L : Nat → Value} {σ : Env} {m : Mem} : ∀ {l : List ET}, etP P L (allOf l) σ m K → ∀ e ∈ l, etP P L e σ m K
  | [], _, e, he => by cases he
  | [a], h, e, he => by simp only [List.mem_singleton] at he; subst he; exact h
  | a :: b :: r, h, e, he => by
    simp only [allOf, etP] at h
    rcases List.mem_cons.1 he with rfl | he
    · exact h.1
    · exact allOf_mem (l := b :: r) h.2 e he

theorem rcP_mem {L : Nat → Value} {σ : Env} {m : Mem} : ∀ {l : List (Nat × RO × List X × Gd)}, rcP L σ m l → ∀ e ∈ l, gP L σ e.2.2.2 (rd e.2.1 (e.2.2.1.map (X.ev L σ)) m = some (σ.get e.1)) True
  | [], _, e, he => by cases he
  | (i, ro, args, g) :: r, h, e, he => by
    simp only [rcP] at h
    rcases List.mem_cons.1 he with rfl | he
    · exact h.1
    · exact rcP_mem h.2 e he

structure St (P : Program) (ops : Array Oper) (base : Nat → Value) (tp : List Nat) (qt : List Bool) (N : Nat) (listed : Array Bool) (a : Act) (w : World) (D : Nat) (σ : Env) (vals : Nat → Value) : Prop where
  can : Can ops base tp D σ vals
  sat : firstQ (List.range ops.size) tp qt D = none
  size : listed.size = ops.size
  closed : Closed tp listed
  sub : ∀ i, listed.getD i false = true → D.testBit i = true
  xin : ∀ i, i < ops.size → D.testBit i = true → listed.getD i false = false → qt.getD i false = true
  qf : ∀ i, i < ops.size → D.testBit i = true → listed.getD i false = false → QF P ops base vals (absM w) i
  fri : Fri ops base N listed a vals

theorem out_ev (ok : RegOK P ops nd tp qt N) {listed : Array Bool} {a : Act} {w : World} {D : Nat} {σ : Env} {vals : Nat → Value} (s : St P ops base tp qt N listed a w D σ vals)
    (hall : ∀ i, i < ops.size → listed.getD i false = true) (t : Nat) : a.tmps.getD t undef = (src ops ops.size (.tmp t)).ev base σ := by
  have e : ∀ n, n ≤ ops.size → lkW ops listed t n = lastW ops t n := by
    intro n
    induction n with
    | zero => intro _; rfl
    | succ k ih =>
      intro hk
      simp only [lkW, lastW, ih (by omega)]
      have := hall k (by omega)
      by_cases hd : dstAt ops k = some t
      · rw [if_pos ⟨hd, this⟩, if_pos hd]
      · rw [if_neg (fun e => hd e.1), if_neg hd]
  rw [s.fri.at_ t, e _ (Nat.le_refl _), src_ev (base := base) ok s.can (Nat.le_refl _) (fun t' j _ hw => s.sub j (hall j (lastW_lt hw).1))]
  simp only [opv]
  cases lastW ops t ops.size <;> rfl

theorem sim (ok : RegOK P ops nd tp qt N) (dr : RegDr ops tp) (houts : ∀ p ∈ outs, p.2 = src ops ops.size (.tmp p.1)) {w0 : World} {Q : Exit → Act → World → Prop}
    (hQ : ∀ a' w' L', Side w0 w' → a'.tmps.size = N → a'.defers = [] → (∀ p ∈ L', a'.tmps.getD p.1 undef = p.2) → K L' (absM w') → Q .normal a' w') :
    ∀ (k : Nat) (listed : Array Bool) (a : Act) (w : World) (f D : Nat) (σ : Env) (vals : Nat → Value), (∃ left : List Nat, left.length ≤ k ∧ ∀ i, i < ops.size → listed.getD i false = false → i ∈ left) → Side w0 w →
      St P ops base tp qt N listed a w D σ vals → etP P base (mkT (List.range ops.size) nd tp qt outs (f + 1) D) σ (absM w) K → wpAny P .any ops Q k listed a w := by
  -- nothing may come: all is done
  have hend : ∀ (listed : Array Bool) (a : Act) (w : World) (f D : Nat) (σ : Env) (vals : Nat → Value), Side w0 w → St P ops base tp qt N listed a w D σ vals →
      etP P base (mkT (List.range ops.size) nd tp qt outs (f + 1) D) σ (absM w) K → Region.ready .any ops listed = [] → Q .normal a w := by
    intro listed a w f D σ vals hs s het hr
    have hall : ∀ i, i < ops.size → listed.getD i false = true := by
      intro i
      induction i using Nat.strongRecOn with
      | _ i ih =>
        intro hi
        cases hu : listed.getD i false
        · exfalso
          have : i ∈ Region.ready .any ops listed := by
            rw [mem_ready]
            refine ⟨?_, ops[i], Array.getElem?_eq_getElem hi, fun e he hb => ?_⟩
            · have : i < listed.size := by rw [s.size]; exact hi
              simp only [Array.getD_eq_getD_getElem?, Array.getElem?_eq_getElem this, Option.getD_some] at hu ⊢
              exact hu
            · have hlt := dr.back i ops[i] (Array.getElem?_eq_getElem hi) e he hb
              exact ih e.on hlt (by omega)
          rw [hr] at this; cases this
        · rfl
    have hD : ∀ i, i < ops.size → D.testBit i = true := fun i hi => s.sub i (hall i hi)
    simp only [mkT, s.sat] at het
    have hrx : readyX (List.range ops.size) tp qt D = [] := by
      unfold readyX
      rw [List.filter_eq_nil_iff]
      intro i hi
      simp [hD i (by simpa using hi)]
    have hal : (List.range ops.size).all (fun i => D.testBit i) = true := by
      rw [List.all_eq_true]; intro i hi; exact hD i (by simpa using hi)
    simp only [hrx, hal, if_true, etP] at het
    refine hQ a w _ hs s.fri.size s.fri.defers ?_ het
    intro p hp
    obtain ⟨q, hq, rfl⟩ := List.mem_map.1 hp
    simp only
    rw [houts q hq]
    exact out_ev ok s hall q.1
  intro k
  induction k with
  | zero =>
    rintro listed a w f D σ vals ⟨left, hlen, hleft⟩ hs s het
    have hnil : left = [] := List.eq_nil_of_length_eq_zero (by omega)
    subst hnil
    have hr : Region.ready .any ops listed = [] := by
      cases hr : Region.ready .any ops listed with
      | nil => rfl
      | cons i r =>
        have hi : i ∈ Region.ready .any ops listed := by rw [hr]; exact List.mem_cons_self ..
        obtain ⟨h0, o, ho, _⟩ := mem_ready.1 hi
        have hlt : i < ops.size := (Array.getElem?_eq_some_iff.1 ho).1
        have hl : i < listed.size := by rw [s.size]; exact hlt
        have : listed.getD i false = false := by
          simp only [Array.getD_eq_getD_getElem?, Array.getElem?_eq_getElem hl, Option.getD_some] at h0 ⊢
          exact h0
        cases hleft i hlt this
    exact ⟨hr, hend listed a w f D σ vals hs s het hr⟩
  | succ k ih =>
    rintro listed a w f D σ vals ⟨left, hlen, hleft⟩ hs s het
    refine ⟨fun hr => hend listed a w f D σ vals hs s het hr, fun i hir => ?_⟩
    obtain ⟨h0, o, ho, hdir⟩ := mem_ready.1 hir
    have hlt : i < ops.size := (Array.getElem?_eq_some_iff.1 ho).1
    have hl : i < listed.size := by rw [s.size]; exact hlt
    have hu : listed.getD i false = false := by
      simp only [Array.getD_eq_getD_getElem?, Array.getElem?_eq_getElem hl, Option.getD_some] at h0 ⊢
      exact h0
    -- its predecessors are done
    have hp : ∀ j, (tp.getD i 0).testBit j = true → listed.getD j false = true := by
      intro j hj
      obtain ⟨e, he, hb, h | h⟩ := dr.htp i o ho j hj
      · subst h; exact hdir e he hb
      · exact s.closed e.on (hdir e he hb) j h
    have hpD : ∀ j, (tp.getD i 0).testBit j = true → D.testBit j = true := fun j hj => s.sub j (hp j hj)
    obtain ⟨d, hd, hnd⟩ := ok.hnd i hlt
    obtain ⟨o', ro, xl, g, ho', hr, hk, hg, hde⟩ := nd_parts hnd
    rw [ho] at ho'; cases ho'
    have hqt := ok.hqt i d hlt hd
    have hwa := want_act (base := base) ok s.closed hlt ho hg hu hp s.fri
    have hargs : xl.map a.eval = xl.map (opv ops base vals i) := List.map_congr_left fun x hx =>
      opv_act (base := base) ok s.closed hlt ho hu hp s.fri (fun t e => by subst e; exact ok_mem hk hx)
    have hleft' : ∃ left' : List Nat, left'.length ≤ k ∧ ∀ j, j < ops.size → (listed.setIfInBounds i true).getD j false = false → j ∈ left' := by
      have hmem := hleft i hlt hu
      refine ⟨left.erase i, by rw [List.length_erase_of_mem hmem]; omega, fun j hj hju => ?_⟩
      rw [getD_set hl] at hju
      simp only [Bool.or_eq_false_iff, decide_eq_false_iff_not] at hju
      exact (List.mem_erase_of_ne hju.1).2 (hleft j hj hju.2)
    have hcl' : Closed tp (listed.setIfInBounds i true) := by
      intro j hj n hn
      rw [getD_set hl] at hj ⊢
      by_cases e : j = i
      · subst e; rw [hp n hn]; simp
      · simp only [e, decide_false, Bool.false_or] at hj
        rw [s.closed j hj n hn]; simp
    unfold wpOp
    simp only [ho]
    cases hqi : ro.quiet with
    | true =>
      have hqg : qt.getD i false = true := by rw [List.getD_eq_getElem?_getD, hqt, hde]; simpa using hqi
      have hD : D.testBit i = true := firstQ_none s.sat (by simpa using hlt) hqg hpD
      have hqf := s.qf i hlt hD hu o ro xl ho hr
      -- behind it
      have hnext : wpAny P .any ops Q k (listed.setIfInBounds i true) (a.put o.dst (vals i)) w := by
        refine ih _ _ _ f D σ vals hleft' hs ?_ het
        refine ⟨s.can, s.sat, by simp [s.size], hcl', fun j hj => ?_, fun j hj hjD hju => ?_, fun j hj hjD hju => ?_, ?_⟩
        · rw [getD_set hl] at hj
          by_cases e : j = i
          · subst e; exact hD
          · simp only [e, decide_false, Bool.false_or] at hj; exact s.sub j hj
        · rw [getD_set hl] at hju
          simp only [Bool.or_eq_false_iff] at hju
          exact s.xin j hj hjD hju.2
        · rw [getD_set hl] at hju
          simp only [Bool.or_eq_false_iff] at hju
          exact s.qf j hj hjD hju.2
        · exact s.fri.put ok s.closed hlt ho hl hu (fun _ _ => rfl) rfl
      rw [hwa]
      cases hw : wantV ops base vals i o with
      | true =>
        simp only [if_true]
        left
        have hrd := hqf.2.1 hw
        rw [← hargs] at hrd
        have hrun := res_quiet (w := w) hr hqi hrd rfl
        unfold Oper.wp
        rw [hrun]
        exact hnext
      | false =>
        simp only [Bool.false_eq_true, if_false]
        rw [← hqf.2.2 hw]
        exact hnext
    | false =>
      have hqg : qt.getD i true = false := by rw [List.getD_eq_getElem?_getD, hqt, hde]; simpa using hqi
      have hqg' : qt.getD i false = false := by rw [List.getD_eq_getElem?_getD, hqt, hde]; simpa using hqi
      have hD : D.testBit i = false := by
        cases h : D.testBit i
        · rfl
        · have := s.xin i hlt h hu; rw [hqg'] at this; cases this
      have hmv : mvOf ops i = none := by
        cases hm : mvOf ops i with
        | none => rfl
        | some x =>
          have := (QF.of_mv (P := P) (m := absM w) (vals := upd vals i (opv ops base vals i x)) hm (by
            rw [upd_self]
            obtain ⟨o2, ho2, hl2⟩ := mvOf_looks hm
            rw [ho] at ho2; cases ho2
            exact (opv_upd (base := base) ok ho hD hpD _ hl2).symm)) o ro xl ho hr
          rw [hqi] at this; cases this.1
      -- its step in the tree
      have hin : i ∈ readyX (List.range ops.size) tp qt D := by
        unfold readyX
        rw [List.mem_filter]
        refine ⟨by simpa using hlt, ?_⟩
        have hand : ((tp.getD i 0) &&& D == tp.getD i 0) = true := by
          simp only [beq_iff_eq]
          apply Nat.eq_of_testBit_eq
          intro n
          rw [Nat.testBit_and]
          cases hb : (tp.getD i 0).testBit n
          · rfl
          · simp [hpD n hb]
        rw [hD, hqg, hand]; rfl
      have hx : etP P base (.x i ro (xl.map (src ops i)) g (rcOf (List.range ops.size) nd tp D i) (mkT (List.range ops.size) nd tp qt outs f (D ||| 2 ^ i))) σ (absM w) K := by
        simp only [mkT, s.sat] at het
        cases hrl : readyX (List.range ops.size) tp qt D with
        | nil => rw [hrl] at hin; cases hin
        | cons j0 r0 =>
          rw [hrl] at het hin
          simp only at het
          have := allOf_mem het _ (List.mem_map.2 ⟨i, hin, rfl⟩)
          rw [hd] at this
          simp only [hde] at this
          exact this
      simp only [etP] at hx
      have hgw := gd_want (base := base) ok s.can hlt ho hpD hg hx
      have hav := args_ev (base := base) ok s.can hlt ho hpD hk
      -- behind it, whatever it has done
      have hafter : ∀ v w', Side w0 w' → (∀ j, j < ops.size → D.testBit j = true → (listed.setIfInBounds i true).getD j false = false → QF P ops base (upd vals i v) (absM w') j) →
          etP P base (mkT (List.range ops.size) nd tp qt outs f (D ||| 2 ^ i)) ((i, v) :: σ) (absM w') K → wpAny P .any ops Q k (listed.setIfInBounds i true) (a.put o.dst v) w' := by
        intro v w' hs' hqf' het'
        have c1 := s.can.add ok hlt hD hpD v ((i, v) :: σ) (fun _ => rfl) (fun x e => by rw [hmv] at e; cases e)
        obtain ⟨f', D', σ', vals', c', hq', het'', hk', hn'⟩ := advance ok f (D ||| 2 ^ i) _ _ _ c1 het'
        have hiD' : (D ||| 2 ^ i).testBit i = true := by rw [testBit_or_pow]; simp
        refine ih _ _ _ f' D' σ' vals' hleft' hs' ?_ het''
        refine ⟨c', hq', by simp [s.size], hcl', fun j hj => ?_, fun j hj hjD hju => ?_, fun j hj hjD hju => ?_, ?_⟩
        · rw [getD_set hl] at hj
          refine (hk' j ?_).1
          rw [testBit_or_pow]
          by_cases e : j = i
          · simp [e]
          · simp only [e, decide_false, Bool.false_or] at hj; simp [s.sub j hj]
        · have hne : j ≠ i := fun e => by subst e; rw [getD_set hl] at hju; simp at hju
          rcases hn' j hjD with h' | h'
          · rw [testBit_or_pow] at h'
            simp only [hne, decide_false, Bool.or_false] at h'
            rw [getD_set hl] at hju
            simp only [Bool.or_eq_false_iff] at hju
            exact s.xin j hj h' hju.2
          · obtain ⟨dj, hdj, hndj⟩ := ok.hnd j hj
            obtain ⟨oj, roj, xlj, gj, hoj, hrj, _, _, hdej⟩ := nd_parts hndj
            have := (h' oj roj xlj hoj hrj).1
            rw [List.getD_eq_getElem?_getD, ok.hqt j dj hj hdj, hdej]
            simpa using this
        · have hne : j ≠ i := fun e => by subst e; rw [getD_set hl] at hju; simp at hju
          rcases hn' j hjD with h' | h'
          · have h'' := h'
            rw [testBit_or_pow] at h'
            simp only [hne, decide_false, Bool.or_false] at h'
            obtain ⟨dj, hdj, hndj⟩ := ok.hnd j hj
            exact QF.keep (D := D ||| 2 ^ i) ok hndj h'' (c1.closed j h'') (fun n hn => (hk' n hn).2) (hqf' j hj h' hju)
          · exact h'
        · have hvi : vals' i = v := by rw [(hk' i hiD').2, upd_self]
          refine s.fri.put ok s.closed hlt ho hl hu (fun n hn => ?_) hvi
          have hnD := s.sub n hn
          have hne : n ≠ i := fun e => by subst e; rw [hD] at hnD; cases hnD
          rw [(hk' n (by rw [testBit_or_pow]; simp [hnD])).2, upd_ne v hne]
      rw [hwa]
      cases hw : wantV ops base vals i o with
      | false =>
        simp only [Bool.false_eq_true, if_false]
        refine hafter undef w hs (fun j hj hjD hju => ?_) (hgw.2 hw)
        rw [getD_set hl] at hju
        simp only [Bool.or_eq_false_iff, decide_eq_false_iff_not] at hju
        obtain ⟨dj, hdj, hndj⟩ := ok.hnd j hj
        exact QF.keep (D := D) ok hndj hjD (s.can.closed j hjD) (fun n hn => upd_ne _ (fun e => by subst e; rw [hD] at hn; cases hn)) (s.qf j hj hjD hju.2)
      | true =>
        simp only [if_true]
        left
        have hxs := hgw.1 hw
        rw [hav, ← hargs] at hxs
        have hst := res_x hr hqi hxs (fun f => rfl)
        refine wp_of_xstep hst fun v w' hs' ⟨hrc, het'⟩ => hafter v w' (hs.trans hs') (fun j hj hjD hju => ?_) het'
        rw [getD_set hl] at hju
        simp only [Bool.or_eq_false_iff, decide_eq_false_iff_not] at hju
        obtain ⟨dj, hdj, hndj⟩ := ok.hnd j hj
        have hold := s.qf j hj hjD hju.2
        have hkeepD : ∀ n, D.testBit n = true → upd vals i v n = vals n := fun n hn => upd_ne _ (fun e => by subst e; rw [hD] at hn; cases hn)
        have h1 := QF.keep (D := D) ok hndj hjD (s.can.closed j hjD) hkeepD hold
        obtain ⟨oj, roj, xlj, gj, hoj, hrj, hkj, hgj, hdej⟩ := nd_parts hndj
        intro oj' roj' xlj' hoj' hrj'
        rw [hoj] at hoj'; cases hoj'
        rw [hrj] at hrj'; cases hrj'
        have h1' := h1 oj roj xlj hoj hrj
        refine ⟨h1'.1, fun hwj => ?_, h1'.2.2⟩
        cases hre : roj.reads with
        | false => rw [rd_indep hre _ (absM w') (absM w)]; exact h1'.2.1 hwj
        | true =>
          have hmem : (j, roj, xlj.map (src ops j), gj) ∈ rcOf (List.range ops.size) nd tp D i := by
            unfold rcOf
            rw [List.mem_filterMap]
            refine ⟨j, by simpa using hj, ?_⟩
            have hntp : (tp.getD i 0).testBit j = false := by
              cases h : (tp.getD i 0).testBit j
              · rfl
              · rw [hp j h] at hju; cases hju.2
            rw [hdj]
            simp only [Option.bind_some, hdej]
            rw [hjD, h1'.1, hre, hntp]
            rfl
          have hg1 := rcP_mem hrc _ hmem
          have c1 := s.can.add ok hlt hD hpD v ((i, v) :: σ) (fun _ => rfl) (fun x e => by rw [hmv] at e; cases e)
          have hpj : ∀ n, (tp.getD j 0).testBit n = true → (D ||| 2 ^ i).testBit n = true := fun n hn => c1.closed j (by rw [testBit_or_pow]; simp [hjD]) n hn
          have hg2 := (gd_want (base := base) ok c1 hj hoj hpj hgj hg1).1 hwj
          rw [args_ev (base := base) ok c1 hj hoj hpj hkj] at hg2
          have hmvj : mvOf ops j = none := by
            cases hm : mvOf ops j with
            | none => rfl
            | some x =>
              obtain ⟨hgn, hop⟩ := mv_guard hm hoj
              obtain ⟨dst, op, type, pos, after, guard⟩ := oj
              rcases hop with rfl | rfl <;> (simp only [res] at hrj; obtain ⟨rfl, rfl⟩ := some_pair hrj; simp [RO.reads] at hre)
          rw [hg2, c1.sg j (by rw [testBit_or_pow]; simp [hjD]) hmvj]


/-! ### the order of the text alone -/
theorem testBit_ones (i k : Nat) : (2 ^ i - 1).testBit k = decide (k < i) := Nat.testBit_two_pow_sub_one i k

theorem seq_sim (ok : RegOK P ops nd tp qt N) (htp : ∀ i, i < ops.size → ∀ k, (tp.getD i 0).testBit k = true → k < i) (houts : ∀ p ∈ outs, p.2 = src ops ops.size (.tmp p.1)) {w0 : World} {Q : Exit → Act → World → Prop}
    (hQ : ∀ a' w' L', Side w0 w' → a'.tmps.size = N → a'.defers = [] → (∀ p ∈ L', a'.tmps.getD p.1 undef = p.2) → K L' (absM w') → Q .normal a' w') :
    ∀ (k i : Nat) (a : Act) (w : World) (σ : Env) (vals : Nat → Value), i + k = ops.size → nd.length = ops.size → Side w0 w → a.tmps.size = N → a.defers = [] → Can ops base tp (2 ^ i - 1) σ vals →
      (∀ t, a.tmps.getD t undef = fv base vals t (lastW ops t i)) → etP P base (mkS outs (nd.drop i) i) σ (absM w) K → wpList P ops Q (ops.toList.drop i) a w := by
  intro k
  induction k with
  | zero =>
    intro i a w σ vals hik hlen hs hN hdf c hfr het
    have e : i = ops.size := by omega
    subst e
    rw [List.drop_eq_nil_of_le (by simp)]
    rw [List.drop_eq_nil_of_le (by omega)] at het
    simp only [mkS, etP] at het
    refine hQ a w _ hs hN hdf (fun p hp => ?_) het
    obtain ⟨q, hq, rfl⟩ := List.mem_map.1 hp
    simp only
    rw [houts q hq, src_ev (base := base) ok c (Nat.le_refl _) (fun t j _ hw => by rw [testBit_ones]; simpa using (lastW_lt hw).1), hfr]
    simp only [opv]
    cases lastW ops q.1 ops.size <;> rfl
  | succ k ih =>
    intro i a w σ vals hik hlen hs hN hdf c hfr het
    have hlt : i < ops.size := by omega
    obtain ⟨d, hd, hnd⟩ := ok.hnd i hlt
    obtain ⟨o, ro, xl, g, ho, hr, hk, hg, hde⟩ := nd_parts hnd
    have hoe : ops.toList.drop i = o :: ops.toList.drop (i + 1) := by
      rw [List.drop_eq_getElem_cons (by simpa using hlt)]
      congr 1
      rw [Array.getElem?_eq_getElem hlt] at ho
      simpa using ho
    have hde' : nd.drop i = d :: nd.drop (i + 1) := by
      have hl : i < nd.length := by omega
      rw [List.drop_eq_getElem_cons hl]
      congr 1
      rw [List.getElem?_eq_getElem hl] at hd
      simpa using hd
    rw [hde'] at het
    rw [hoe]
    have hD : (2 ^ i - 1).testBit i = false := by rw [testBit_ones]; simp
    have hp : ∀ n, (tp.getD i 0).testBit n = true → (2 ^ i - 1).testBit n = true := fun n hn => by rw [testBit_ones]; simpa using htp i hlt n hn
    have hsucc : (2 ^ i - 1) ||| 2 ^ i = 2 ^ (i + 1) - 1 := by
      apply Nat.eq_of_testBit_eq
      intro n
      rw [testBit_or_pow, testBit_ones, testBit_ones]
      by_cases e : n = i
      · subst e; simp
      · simp only [e, decide_false, Bool.or_false]
        congr 1
        exact propext (by omega)
    have hact : ∀ x : Operand, a.eval x = opv ops base vals i x := fun x => by
      cases x with
      | tmp t => simp only [Act.eval, opv]; rw [hfr t]; cases lastW ops t i <;> rfl
      | const v => rfl
      | global g => rfl
      | func f => rfl
    have hargs : xl.map a.eval = xl.map (opv ops base vals i) := List.map_congr_left fun x _ => hact x
    have hwa : Region.wanted o (yielded ops a.tmps) = wantV ops base vals i o := by
      unfold Region.wanted wantV
      cases hgu : o.guard with
      | none => rfl
      | some jw =>
        obtain ⟨j, want⟩ := jw
        simp only
        unfold gdOf at hg
        simp only [hgu] at hg
        obtain ⟨d', hd', _⟩ := Option.map_eq_some_iff.1 hg
        simp only [hd']
        rw [← hact (.tmp d')]
        have : yielded ops a.tmps j = asB (a.eval (.tmp d')) := by
          unfold yielded
          unfold dstAt at hd'
          rw [hd']
          simp only [Option.bind_some, Act.eval]
          rcases Nat.lt_or_ge d' a.tmps.size with h | h
          · simp only [Array.getElem?_eq_getElem h, Array.getD, h, dite_true]
            cases hv : a.tmps[d'] <;> simp [asB, hv]
          · have h1 : a.tmps.getD d' undef = undef := by simp [Array.getD, Nat.not_lt.2 h]
            rw [Array.getElem?_eq_none h, h1]; rfl
        rw [this]
    -- behind it
    have hnext : ∀ (v : Value) (σ1 : Env) (w' : World), Side w0 w' → (mvOf ops i = none → σ1 = (i, v) :: σ) → (∀ x, mvOf ops i = some x → σ1 = σ ∧ v = opv ops base vals i x) →
        etP P base (mkS outs (nd.drop (i + 1)) (i + 1)) σ1 (absM w') K → wpList P ops Q (ops.toList.drop (i + 1)) (a.put o.dst v) w' := by
      intro v σ1 w' hs' h1 h2 het'
      have c1 := c.add ok hlt hD hp v σ1 h1 h2
      rw [hsucc] at c1
      have hdo : dstAt ops i = o.dst := by simp [dstAt, ho]
      refine ih (i + 1) _ w' σ1 (upd vals i v) (by omega) hlen hs' ?_ ?_ c1 (fun t => ?_) het'
      · cases hdd : o.dst <;> simp [Act.put, hN]
      · cases hdd : o.dst <;> simp [Act.put, hdf]
      · simp only [lastW, hdo]
        have hold : fv base (upd vals i v) t (lastW ops t i) = a.tmps.getD t undef := by
          rw [hfr t]
          cases hw : lastW ops t i with
          | none => rfl
          | some j => simp only [fv]; exact upd_ne v (by have := (lastW_lt hw).1; omega)
        cases hdd : o.dst with
        | none => simp only [Act.put, reduceCtorEq, if_false]; exact hold.symm
        | some dd =>
          have hdN := ok.hdst i dd (by rw [hdo]; exact hdd)
          by_cases e : dd = t
          · subst e
            simp only [Act.put, if_true, fv, upd_self]
            have : dd < a.tmps.size := by rw [hN]; exact hdN
            simp [this]
          · rw [if_neg (fun h => e (Option.some.inj h)), hold]
            simp only [Act.put]
            simp [Array.getElem?_setIfInBounds_ne e]
    unfold wpList
    rw [hwa]
    cases hm : mvOf ops i with
    | some x =>
      have hmv : d.mv = true := by rw [hde]; simp [hm]
      simp only [mkS, hmv, if_true] at het
      obtain ⟨hgn, hop⟩ := mv_guard hm ho
      have hwt : wantV ops base vals i o = true := by simp [wantV, hgn]
      rw [hwt]
      simp only [if_true]
      left
      have hrun : (execOp a.eval o).run P w = .ok (.value (a.eval x)) w := by
        rcases hop with e | e <;> simp [execOp, e]
      unfold Oper.wp
      rw [hrun]
      simp only [Oper.upon]
      exact hnext _ σ w hs (fun e => by rw [hm] at e; cases e) (fun x' e => by rw [hm] at e; cases e; exact ⟨rfl, hact x⟩) het
    | none =>
      have hmv : d.mv = false := by rw [hde]; simp [hm]
      have h1 : ∀ v, (mvOf ops i = none → ((i, v) :: σ) = (i, v) :: σ) := fun _ _ => rfl
      have h2 : ∀ v x, mvOf ops i = some x → ((i, v) :: σ) = σ ∧ v = opv ops base vals i x := fun _ x e => by rw [hm] at e; cases e
      simp only [mkS, hmv, Bool.false_eq_true, if_false] at het
      cases hq : ro.quiet with
      | true =>
        have hq' : d.ro.quiet = true := by rw [hde]; exact hq
        simp only [hq', if_true, etP] at het
        rw [hde] at het
        simp only at het
        have hgw := gd_want (base := base) ok c hlt ho hp hg het
        have hav := args_ev (base := base) ok c hlt ho hp hk
        cases hw : wantV ops base vals i o with
        | true =>
          simp only [if_true]
          left
          obtain ⟨v, hv, het'⟩ := hgw.1 hw
          rw [hav, ← hargs] at hv
          have hrun := res_quiet (w := w) hr hq hv rfl
          unfold Oper.wp
          rw [hrun]
          exact hnext v _ w hs (h1 v) (h2 v) het'
        | false =>
          simp only [Bool.false_eq_true, if_false]
          exact hnext undef _ w hs (h1 undef) (h2 undef) (hgw.2 hw)
      | false =>
        have hq' : d.ro.quiet = false := by rw [hde]; exact hq
        simp only [hq', Bool.false_eq_true, if_false, etP] at het
        rw [hde] at het
        simp only at het
        have hgw := gd_want (base := base) ok c hlt ho hp hg het
        have hav := args_ev (base := base) ok c hlt ho hp hk
        cases hw : wantV ops base vals i o with
        | true =>
          simp only [if_true]
          left
          have hxs := hgw.1 hw
          rw [hav, ← hargs] at hxs
          have hst := res_x hr hq hxs (fun f => rfl)
          exact wp_of_xstep hst fun v w' hs' ⟨_, het'⟩ => hnext v _ w' (hs.trans hs') (h1 v) (h2 v) het'
        | false =>
          simp only [Bool.false_eq_true, if_false]
          exact hnext undef _ w hs (h1 undef) (h2 undef) (hgw.2 hw)

end sim
end Go.Fw
