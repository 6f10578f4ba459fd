import Derived.Test.YtadkdbnikmkgfaaFvSim3
namespace Go.Fw

/-! ### a region's tree, checked -/
def backB (ops : Array Oper) : Bool := (List.range ops.size).all fun i => match ops[i]? with | some o => o.after.toList.all fun e => !Region.binds .any e || decide (e.on < i) | none => true
def apB (ops : Array Oper) (tp : List Nat) : Bool :=
  (List.range ops.size).all fun j => (List.range j).all fun i => (tp.getD j 0).testBit i || (match ops[i]?, ops[j]? with | some x, some y => x.apart ops y | _, _ => true)
def dstB (ops : Array Oper) (N : Nat) : Bool := (List.range ops.size).all fun i => match dstAt ops i with | some d => decide (d < N) | none => true

def regTree (P : Program) (N : Nat) (ops : Array Oper) (draw : Bool) (live : List Nat) : Option ET :=
  ((List.range ops.size).mapM (ndOf P ops)).bind fun nd =>
    if dstB ops N then
      if draw then
        if backB ops && apB ops (tps ops.toList []) then
          some (mkT (List.range ops.size) nd (tps ops.toList []) (nd.map (·.ro.quiet)) (live.map fun t => (t, src ops ops.size (.tmp t))) (2 * ops.size + 2) 0)
        else none
      else some (mkS (live.map fun t => (t, src ops ops.size (.tmp t))) nd 0)
    else none

theorem tps_len : ∀ (l : List Oper) (acc : List Nat), (tps l acc).length = acc.length + l.length
  | [], acc => by simp [tps]
  | o :: r, acc => by simp [tps, tps_len r]; omega
theorem tps_acc : ∀ (l : List Oper) (acc : List Nat) (i : Nat), i < acc.length → (tps l acc).getD i 0 = acc.getD i 0
  | [], acc, i, h => rfl
  | o :: r, acc, i, h => by
    rw [tps, tps_acc r _ i (by simp; omega)]
    simp [List.getElem?_append_left h]
theorem tps_at : ∀ (l : List Oper) (acc : List Nat) (i : Nat) (o : Oper), l[i]? = some o → (tps l acc).getD (acc.length + i) 0 = tpStep ((tps l acc).take (acc.length + i)) o
  | [], acc, i, o, h => by simp at h
  | o :: r, acc, 0, o', h => by
    simp only [List.getElem?_cons_zero, Option.some.injEq] at h
    subst h
    have h1 := tps_acc r (acc ++ [tpStep acc o]) acc.length (by simp)
    simp only [tps, Nat.add_zero]
    rw [h1]
    have h2 : (tps r (acc ++ [tpStep acc o])).take acc.length = acc := by
      apply List.ext_getElem?
      intro n
      rw [List.getElem?_take]
      split
      · rename_i hn
        have h3 := tps_acc r (acc ++ [tpStep acc o]) n (by simp; omega)
        have hl : n < (tps r (acc ++ [tpStep acc o])).length := by rw [tps_len]; simp; omega
        rw [List.getD_eq_getElem?_getD, List.getElem?_eq_getElem hl, List.getD_eq_getElem?_getD, List.getElem?_append_left hn, List.getElem?_eq_getElem hn] at h3
        simp only [Option.getD_some] at h3
        rw [List.getElem?_eq_getElem hl, List.getElem?_eq_getElem hn, h3]
      · rename_i hn
        rw [List.getElem?_eq_none (by omega)]
    rw [h2]
    simp
  | o :: r, acc, i + 1, o', h => by
    have := tps_at r (acc ++ [tpStep acc o]) i o' (by simpa using h)
    simp only [List.length_append, List.length_cons, List.length_nil] at this
    simp only [tps]
    rw [show acc.length + (i + 1) = acc.length + (0 + 1) + i from by omega]
    exact this

theorem tpStep_bit {acc : List Nat} {k : Nat} : ∀ (es : List Edge) (s0 : Nat), (es.foldl (fun s e => if Region.binds .any e then s ||| 2 ^ e.on ||| acc.getD e.on 0 else s) s0).testBit k = true →
    s0.testBit k = true ∨ ∃ e ∈ es, Region.binds .any e = true ∧ (k = e.on ∨ (acc.getD e.on 0).testBit k = true)
  | [], s0, h => .inl h
  | e :: r, s0, h => by
    simp only [List.foldl_cons] at h
    rcases tpStep_bit r _ h with h' | ⟨e', he', hb⟩
    · split at h'
      · rename_i hb
        rw [Nat.testBit_or, testBit_or_pow] at h'
        simp only [Bool.or_eq_true, decide_eq_true_eq] at h'
        rcases h' with (h' | h') | h'
        · exact .inl h'
        · exact .inr ⟨e, List.mem_cons_self .., hb, .inl h'⟩
        · exact .inr ⟨e, List.mem_cons_self .., hb, .inr h'⟩
      · exact .inl h'
    · exact .inr ⟨e', List.mem_cons_of_mem _ he', hb⟩

theorem mapM_some {α β : Type} {f : α → Option β} : ∀ {l : List α} {r : List β}, l.mapM f = some r → r.length = l.length ∧ ∀ (i : Nat) (a : α), l[i]? = some a → ∃ b, r[i]? = some b ∧ f a = some b
  | [], r, h => by simp only [List.mapM_nil, pure, Option.some.injEq] at h; subst h; simp
  | a :: l, r, h => by
    simp only [List.mapM_cons, bind, pure, Option.bind_eq_some_iff, Option.some.injEq] at h
    obtain ⟨b, hb, r', hr', rfl⟩ := h
    have ih := mapM_some hr'
    refine ⟨by simp [ih.1], fun i x hx => ?_⟩
    cases i with
    | zero => simp only [List.getElem?_cons_zero, Option.some.injEq] at hx ⊢; subst hx; exact ⟨b, rfl, hb⟩
    | succ i => simp only [List.getElem?_cons_succ] at hx ⊢; exact ih.2 i x hx

theorem regOK_of {P : Program} {N : Nat} {ops : Array Oper} {nd : List Nd} {tp : List Nat} (hnd : (List.range ops.size).mapM (ndOf P ops) = some nd) (hd : dstB ops N = true)
    (hap : ∀ i j oi oj, i < j → ops[i]? = some oi → ops[j]? = some oj → (tp.getD j 0).testBit i = true ∨ oi.apart ops oj = true) : RegOK P ops nd tp (nd.map (·.ro.quiet)) N := by
  obtain ⟨hlen, hall⟩ := mapM_some hnd
  refine ⟨hap, fun i hi => ?_, fun i d hi hd' => ?_, fun i d hd' => ?_⟩
  · obtain ⟨b, hb, hf⟩ := hall i i (by rw [List.getElem?_range hi])
    exact ⟨b, hb, hf⟩
  · simp [hd']
  · have hi : i < ops.size := by
      unfold dstAt at hd'
      obtain ⟨o, ho, _⟩ := Option.bind_eq_some_iff.1 hd'
      exact (Array.getElem?_eq_some_iff.1 ho).1
    have := List.all_eq_true.1 hd i (by simpa using hi)
    simpa [hd'] using this

theorem fri_start {ops : Array Oper} {N : Nat} {a : Act} (hN : a.tmps.size = N) (hd : a.defers = []) (vals : Nat → Value) :
    Fri ops (fun t => a.tmps.getD t undef) N (Array.replicate ops.size false) a vals := by
  refine ⟨hN, hd, fun t => ?_⟩
  have : ∀ n, lkW ops (Array.replicate ops.size false) t n = none := by
    intro n
    induction n with
    | zero => rfl
    | succ k ih =>
      simp only [lkW, ih]
      rw [if_neg]
      rintro ⟨_, h⟩
      simp only [Array.getD_eq_getD_getElem?, Array.getElem?_replicate] at h
      split at h <;> simp at h
  rw [this]; rfl

/-- a region, whichever way it is ordered -/
theorem region_sound {P : Program} {N : Nat} {ops : Array Oper} {draw : Bool} {live : List Nat} {et : ET} (h : regTree P N ops draw live = some et) (hm : P.follows .mixedOrders = true)
    {K : Env → Mem → Prop} {w : World} {a : Act} {Q : Exit → Act → World → Prop} {id : Nat} (hN : a.tmps.size = N) (hdf : a.defers = [])
    (hQ : ∀ a' w' L', Side w w' → a'.tmps.size = N → a'.defers = [] → (∀ p ∈ L', a'.tmps.getD p.1 undef = p.2) → K L' (absM w') → Q .normal a' w')
    (het : etP P (fun t => a.tmps.getD t undef) et [] (absM w) K) : (Code.region id ops draw).wp P Q a w := by
  unfold regTree at h
  obtain ⟨nd, hnd, h⟩ := Option.bind_eq_some_iff.1 h
  split at h
  case isFalse => cases h
  rename_i hdst
  have houts : ∀ p ∈ live.map fun t => (t, src ops ops.size (.tmp t)), p.2 = src ops ops.size (.tmp p.1) := fun p hp => by
    obtain ⟨t, _, rfl⟩ := List.mem_map.1 hp; rfl
  cases draw with
  | true =>
    simp only [if_true] at h
    split at h
    case isFalse => cases h
    rename_i hc
    simp only [Option.some.injEq] at h
    subst h
    simp only [Bool.and_eq_true] at hc
    obtain ⟨hback, hap⟩ := hc
    have ok := regOK_of (P := P) (N := N) (tp := tps ops.toList []) hnd hdst (fun i j oi oj hij hi hj => by
      have hj' : j < ops.size := (Array.getElem?_eq_some_iff.1 hj).1
      have := List.all_eq_true.1 (List.all_eq_true.1 hap j (by simpa using hj')) i (by simpa using hij)
      simp only [hi, hj, Bool.or_eq_true] at this
      exact this)
    have dr : RegDr ops (tps ops.toList []) := by
      constructor
      · intro i o ho e he hb
        have hi : i < ops.size := (Array.getElem?_eq_some_iff.1 ho).1
        have := List.all_eq_true.1 hback i (by simpa using hi)
        simp only [ho] at this
        have := List.all_eq_true.1 this e (by simpa using he)
        simpa [hb] using this
      · intro i o ho k hk
        have h1 := tps_at ops.toList [] i o (by simpa using ho)
        simp only [List.length_nil, Nat.zero_add] at h1
        rw [h1] at hk
        rcases tpStep_bit _ _ hk with h2 | ⟨e, he, hb, h2⟩
        · simp at h2
        · refine ⟨e, by simpa using he, hb, h2.imp (fun h => h) fun h3 => ?_⟩
          rw [List.getD_eq_getElem?_getD, List.getElem?_take] at h3
          split at h3
          · rw [List.getD_eq_getElem?_getD]; exact h3
          · simp at h3
    refine wp_region_any hm ?_
    have c0 : Can ops (fun t => a.tmps.getD t undef) (tps ops.toList []) 0 [] (fun _ => undef) := ⟨fun i hi => by simp at hi, fun i hi => by simp at hi, fun i x hi => by simp at hi⟩
    obtain ⟨f', D', σ', vals', c', hq', het', _, hn'⟩ := advance ok _ 0 [] (fun _ => undef) (absM w) c0 het
    refine sim ok dr houts (w0 := w) hQ ops.size _ a _ f' D' σ' vals' ⟨List.range ops.size, by simp, fun i hi _ => by simpa using hi⟩ (side_drew w _ (Nat.le_succ _)) ?_ het'
    have hlist : ∀ i, (Array.replicate ops.size false).getD i false = false := fun i => by
      simp only [Array.getD_eq_getD_getElem?, Array.getElem?_replicate]
      split <;> rfl
    refine ⟨c', hq', by simp, (fun j hj => by rw [hlist] at hj; cases hj), (fun j hj => by rw [hlist] at hj; cases hj), fun i hi hD _ => ?_, fun i hi hD _ => ?_, fri_start hN hdf vals'⟩
    · rcases hn' i hD with h0 | hqf
      · simp at h0
      · obtain ⟨d, hd, hndo⟩ := ok.hnd i hi
        obtain ⟨o, ro, xl, g, ho, hr, _, _, hde⟩ := nd_parts hndo
        rw [List.getD_eq_getElem?_getD, ok.hqt i d hi hd, hde]
        simpa using (hqf o ro xl ho hr).1
    · rcases hn' i hD with h0 | hqf
      · simp at h0
      · exact hqf
  | false =>
    simp only [Bool.false_eq_true, if_false, Option.some.injEq] at h
    subst h
    let tp := (List.range ops.size).map fun i => 2 ^ i - 1
    have htp : ∀ j, j < ops.size → tp.getD j 0 = 2 ^ j - 1 := fun j hj => by
      simp only [tp, List.getD_eq_getElem?_getD, List.getElem?_map, List.getElem?_range hj]; rfl
    have ok := regOK_of (P := P) (N := N) (tp := tp) hnd hdst (fun i j oi oj hij hi hj => .inl (by
      have hj' : j < ops.size := (Array.getElem?_eq_some_iff.1 hj).1
      rw [htp j hj', testBit_ones]; simpa using hij))
    refine wp_region_list ?_
    have c0 : Can ops (fun t => a.tmps.getD t undef) tp (2 ^ 0 - 1) [] (fun _ => undef) := ⟨fun i hi => by simp at hi, fun i hi => by simp at hi, fun i x hi => by simp at hi⟩
    have := seq_sim ok (fun i hi k hk => by rw [htp i hi, testBit_ones] at hk; simpa using hk) houts (w0 := w) hQ ops.size 0 a w [] (fun _ => undef) (by simp) (by
      have := (mapM_some hnd).1; simpa using this) (Side.rfl' w) hN hdf c0 (fun t => rfl) (by simpa using het)
    simpa using this

/-! ### slots that are looked at -/
def X.used : X → List Nat
  | .slot t => [t]
  | _ => []
def gdUsed : Gd → List Nat
  | some (x, _) => x.used
  | none => []
def argsUsed (l : List X) : List Nat := l.flatMap X.used
def ET.used : ET → List Nat
  | .out outs => outs.flatMap fun p => p.2.used
  | .fail | .tt => []
  | .q _ _ args g k => argsUsed args ++ gdUsed g ++ k.used
  | .x _ _ args g rc k => argsUsed args ++ gdUsed g ++ (rc.flatMap fun r => argsUsed r.2.2.1 ++ gdUsed r.2.2.2) ++ k.used
  | .both a b => a.used ++ b.used

section congr
variable {L L' : Nat → Value}
theorem ev_congr {x : X} (h : ∀ t ∈ x.used, L t = L' t) (σ : Env) : x.ev L σ = x.ev L' σ := by
  cases x <;> first | rfl | exact h _ (List.mem_singleton.2 rfl)
theorem map_ev_congr {l : List X} (h : ∀ t ∈ argsUsed l, L t = L' t) (σ : Env) : l.map (X.ev L σ) = l.map (X.ev L' σ) :=
  List.map_congr_left fun x hx => ev_congr (fun t ht => h t (List.mem_flatMap.2 ⟨x, hx, ht⟩)) σ
theorem gP_congr {g : Gd} (h : ∀ t ∈ gdUsed g, L t = L' t) {σ : Env} {y n y' n' : Prop} (hy : y → y') (hn : n → n') (hh : gP L σ g y n) : gP L' σ g y' n' := by
  cases g with
  | none => exact hy hh
  | some xw =>
    obtain ⟨x, w⟩ := xw
    simp only [gP] at hh ⊢
    rw [ev_congr (L := L) (L' := L') h σ] at hh
    exact ⟨fun e => hy (hh.1 e), fun e => hn (hh.2 e)⟩
theorem rcP_congr {σ : Env} {m : Mem} : ∀ {l : List (Nat × RO × List X × Gd)}, (∀ t ∈ l.flatMap (fun r => argsUsed r.2.2.1 ++ gdUsed r.2.2.2), L t = L' t) → rcP L σ m l → rcP L' σ m l
  | [], _, h => h
  | (i, ro, args, g) :: r, hu, h => by
    simp only [List.flatMap_cons, List.mem_append] at hu
    simp only [rcP] at h ⊢
    rw [map_ev_congr (L := L) (L' := L') (fun t ht => hu t (.inl (.inl ht))) σ] at h
    exact ⟨gP_congr (fun t ht => hu t (.inl (.inr ht))) (fun h => h) (fun h => h) h.1, rcP_congr (fun t ht => hu t (.inr ht)) h.2⟩
section
variable {K K' : Value → Mem → Prop} {m : Mem} (hk : ∀ v m, K v m → K' v m)
include hk
theorem st_mono {A : Prop} {o : Option Mem} {v : Value} (h : A ∧ ∃ m', o = some m' ∧ K v m') : A ∧ ∃ m', o = some m' ∧ K' v m' := ⟨h.1, h.2.elim fun m' h2 => ⟨m', h2.1, hk _ _ h2.2⟩⟩
theorem mup_mono {ag : Bool} {ks : List LK} {r : Option Nat} {k v : Value} (h : ∃ b, r = some b ∧ mupP ag ks m K b k v) : ∃ b, r = some b ∧ mupP ag ks m K' b k v := by
  obtain ⟨b, e, h1, es, cl, hm, o, hf, h⟩ := h
  refine ⟨b, e, h1, es, cl, hm, o, hf, ?_⟩
  revert h
  cases o with
  | none => exact hk _ _
  | some iv => exact hk _ _
theorem dlt_mono {ag : Bool} {ks : List LK} {r : Option Nat} {k : Value} (h : dltP ag ks m K k r) : dltP ag ks m K' k r := by
  cases r with
  | none => exact ⟨h.1, hk _ _ h.2⟩
  | some r =>
    obtain ⟨h1, es, cl, hm, o, hf, h⟩ := h
    refine ⟨h1, es, cl, hm, o, hf, ?_⟩
    revert h
    cases o with
    | none => exact hk _ _
    | some iv => exact hk _ _
theorem clr_mono {zero : List Value} {a : Option Addr} {n c : Nat} (h : clrP zero m K a n c) : clrP zero m K' a n c := by
  cases a with
  | none => exact hk _ _ h
  | some a => obtain ⟨m', e, h⟩ := h; exact ⟨m', e, hk _ _ h⟩
theorem clrm_mono {r : Option Nat} (h : clrmP m K r) : clrmP m K' r := by
  cases r with
  | none => exact hk _ _ h
  | some r => obtain ⟨es, cl, hm, h⟩ := h; exact ⟨es, cl, hm, hk _ _ h⟩
theorem rng_mono {r : Option Nat} (h : rngP m K r) : rngP m K' r := by
  cases r with
  | none => exact fun b hb => hk _ _ (h b hb)
  | some r => obtain ⟨es, cl, hm, h⟩ := h; exact ⟨es, cl, hm, fun b hb => hk _ _ (h b hb)⟩
theorem nxt_mono {a : Addr} (h : nxtP m K a) : nxtP m K' a := by
  obtain ⟨h0, r, s, se, l, hm, h⟩ := h
  refine ⟨h0, r, s, se, l, hm, ?_⟩
  revert h
  cases r with
  | none => exact hk _ _
  | some b => exact fun ⟨es, cl, h1, h2, h3, h4⟩ => ⟨es, cl, h1, h2, fun h => hk _ _ (h3 h), fun e he hs => hk _ _ (h4 e he hs)⟩
end
theorem xs_mono {P : Program} {ro : RO} {args : List Value} {m : Mem} {K K' : Value → Mem → Prop} (hk : ∀ v m, K v m → K' v m) (h : xs P ro args m K) : xs P ro args m K' := by
  unfold xs at *
  split at h <;> first
    | exact h.elim
    | (first
         | exact MC.mono h hk
         | exact fun b hb => hk _ _ (h b hb)
         | (obtain ⟨l, hl, h⟩ := h; exact ⟨l, hl, fun b hb => hk _ _ (h b hb)⟩)
         | exact pP_mono (fun a => st_mono hk) h
         | exact iP_mono (fun n => iP_mono fun c ⟨h0, h1, h2, h3, h4⟩ => ⟨h0, h1, h2, h3, fun b hb => hk _ _ (h4 b hb)⟩) h
         | (refine sP_mono (fun base n cap => sP_mono fun b k c hh => ?_) h; obtain ⟨news, e, hh⟩ := hh; exact ⟨news, e, appP_mono hk hh⟩)
         | exact sP_mono (fun base n cap => zP_mono fun s h => appP_mono hk h) h
         | (refine sP_mono (fun base n cap => sP_mono fun b k c hh => ?_) h; obtain ⟨cells, e, hh⟩ := hh; refine ⟨cells, e, ?_⟩
            cases base with
            | none => exact hk _ _ hh
            | some a => obtain ⟨m', e', h'⟩ := hh; exact ⟨m', e', hk _ _ h'⟩)
         | exact fP_mono (fun f a c h => ⟨h.1, MC.mono h.2 hk⟩) h
         | exact mP_mono (fun r => mup_mono hk) h
         | exact mP_mono (fun r => dlt_mono hk) h
         | exact sP_mono (fun a n c => clr_mono hk) h
         | exact mP_mono (fun r => clrm_mono hk) h
         | exact mP_mono (fun r => rng_mono hk) h
         | exact pP_mono (fun a => nxt_mono hk) h
         | exact zP_mono (fun s h c b hc hb => hk _ _ (h c b hc hb)) h)
theorem etP_congr {P : Program} {K : Env → Mem → Prop} : ∀ (et : ET) (σ : Env) (m : Mem), (∀ t ∈ et.used, L t = L' t) → etP P L et σ m K → etP P L' et σ m K
  | .out outs, σ, m, hu, h => by
    simp only [etP] at h ⊢
    have : (outs.map fun p => (p.1, p.2.ev L σ)) = outs.map fun p => (p.1, p.2.ev L' σ) := List.map_congr_left fun p hp => by
      rw [ev_congr (L := L) (L' := L') (fun t ht => hu t (List.mem_flatMap.2 ⟨p, hp, ht⟩)) σ]
    rw [this] at h; exact h
  | .fail, _, _, _, h => h
  | .tt, _, _, _, h => h
  | .q i ro args g k, σ, m, hu, h => by
    simp only [ET.used, List.mem_append] at hu
    simp only [etP] at h ⊢
    rw [map_ev_congr (L := L) (L' := L') (fun t ht => hu t (.inl (.inl ht))) σ] at h
    refine gP_congr (fun t ht => hu t (.inl (.inr ht))) ?_ ?_ h
    · rintro ⟨v, hv, hk⟩; exact ⟨v, hv, etP_congr k _ m (fun t ht => hu t (.inr ht)) hk⟩
    · exact etP_congr k _ m (fun t ht => hu t (.inr ht))
  | .x i ro args g rc k, σ, m, hu, h => by
    simp only [ET.used, List.mem_append] at hu
    simp only [etP] at h ⊢
    rw [map_ev_congr (L := L) (L' := L') (fun t ht => hu t (.inl (.inl (.inl ht)))) σ] at h
    refine gP_congr (fun t ht => hu t (.inl (.inl (.inr ht)))) ?_ ?_ h
    · exact xs_mono fun v m' ⟨h1, h2⟩ => ⟨rcP_congr (fun t ht => hu t (.inl (.inr ht))) h1, etP_congr k _ m' (fun t ht => hu t (.inr ht)) h2⟩
    · exact etP_congr k _ m (fun t ht => hu t (.inr ht))
  | .both a b, σ, m, hu, h => by
    simp only [ET.used, List.mem_append] at hu
    exact ⟨etP_congr a σ m (fun t ht => hu t (.inl ht)) h.1, etP_congr b σ m (fun t ht => hu t (.inr ht)) h.2⟩
end congr

end Go.Fw
