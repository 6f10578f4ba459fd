import Derived.Test.YtadkdbnikmkgfaaFxMem
/-! Maps of a call's own. -/
namespace Go.Fw
open Go
set_option linter.unusedSectionVars false
variable {α : Type} [DecidableEq α]

/-- keys that are told apart by their leaves -/
structure KeyEnc (ag : Bool) (ks : List LK) (enc : α → Value) : Prop where
  fit : ∀ x, keyFit ag (enc x) = true
  eq : ∀ x y, leafEq ks (vcl (enc x)) (vcl (enc y)) = some (decide (x = y))

theorem KeyEnc.ok {ag : Bool} {ks : List LK} {enc : α → Value} (h : KeyEnc ag ks enc) (x : α) : keyOk ag ks (enc x) = true := by
  simp [keyOk, h.fit, h.eq]
theorem KeyEnc.inj {ag : Bool} {ks : List LK} {enc : α → Value} (h : KeyEnc ag ks enc) {x y : α} (e : enc x = enc y) : x = y := by
  have h1 := h.eq x y
  rw [e, h.eq y y] at h1
  simpa using h1.symm

def lookE (k : α) : List (α × Value) → Nat → Option (Nat × Value)
  | [], _ => none
  | p :: r, i => if k = p.1 then some (i, p.2) else lookE k r (i + 1)
/-- what a map holds at a key -/
def look (k : α) (l : List (α × Value)) : Option Value := (lookE k l 0).map (·.2)
def keysOf (l : List (α × Value)) : List α := l.map (·.1)
/-- a map with one entry laid -/
def updM (k : α) (v : Value) (l : List (α × Value)) : List (α × Value) := if k ∈ keysOf l then l.map fun p => if p.1 = k then (k, v) else p else l ++ [(k, v)]
/-- a map with one entry struck -/
def delM (k : α) (l : List (α × Value)) : List (α × Value) := l.filter fun p => p.1 ≠ k

structure MapHas (enc : α → Value) (es : Array MapEntry) (clock : Nat) (l : List (α × Value)) : Prop where
  kv : es.toList.map (fun e => (e.key, e.val)) = l.map (fun p => (enc p.1, p.2))
  nd : (keysOf l).Nodup
  bd : (es.toList.map (·.born)).Nodup
  lt : ∀ e ∈ es.toList, e.born < clock

/-- the map at block r holds l -/
def MapIs (enc : α → Value) (m : Mem) (r : Nat) (l : List (α × Value)) : Prop := ∃ es clock, m r = some (.map es clock) ∧ MapHas enc es clock l

theorem MapIs.new (enc : α → Value) (m : Mem) (r : Nat) : MapIs enc (m.set r (.map #[] 0)) r ([] : List (α × Value)) :=
  ⟨#[], 0, by simp [Mem.set], by simp, by simp [keysOf], by simp, by simp⟩
theorem MapIs.frame {enc : α → Value} {m m' : Mem} {r : Nat} {l : List (α × Value)} {S : List Nat} (h : MapIs enc m r l) (f : Fr m m' S) (hr : r ∉ S) : MapIs enc m' r l := by
  obtain ⟨es, c, hm, hh⟩ := h
  exact ⟨es, c, f.get hm hr, hh⟩
theorem MapIs.there {enc : α → Value} {m : Mem} {r : Nat} {l : List (α × Value)} (h : MapIs enc m r l) : m r ≠ none := by
  obtain ⟨es, c, hm, hh⟩ := h
  rw [hm]; exact Option.some_ne_none _
theorem MapIs.nd {enc : α → Value} {m : Mem} {r : Nat} {l : List (α × Value)} (h : MapIs enc m r l) : (keysOf l).Nodup := by
  obtain ⟨es, c, hm, hh⟩ := h; exact hh.nd

theorem MapHas.len {enc : α → Value} {es : Array MapEntry} {c : Nat} {l : List (α × Value)} (h : MapHas enc es c l) : es.size = l.length := by
  have := congrArg List.length h.kv
  simpa using this

theorem findE_enc {ag : Bool} {ks : List LK} {enc : α → Value} (K : KeyEnc ag ks enc) (k : α) : ∀ (es : List MapEntry) (l : List (α × Value)) (i : Nat),
    es.map (fun e => (e.key, e.val)) = l.map (fun p => (enc p.1, p.2)) → findE ag ks (enc k) es i = some (lookE k l i)
  | [], l, i, h => by
    cases l with
    | nil => rfl
    | cons p r => simp at h
  | e :: es, l, i, h => by
    cases l with
    | nil => simp at h
    | cons p r =>
      simp only [List.map_cons, List.cons.injEq, Prod.mk.injEq] at h
      obtain ⟨⟨h1, h2⟩, h3⟩ := h
      simp only [findE, lookE, h1, h2, K.fit, K.eq, if_true, Option.bind_some, decide_eq_true_eq]
      split
      · rfl
      · exact findE_enc K k es r (i + 1) h3

theorem lookE_none {k : α} : ∀ {l : List (α × Value)} {i : Nat}, lookE k l i = none → k ∉ keysOf l
  | [], _, _ => by simp [keysOf]
  | p :: r, i, h => by
    simp only [lookE] at h
    split at h
    · cases h
    · rename_i hn
      simp only [keysOf, List.map_cons, List.mem_cons, not_or]
      exact ⟨hn, lookE_none h⟩
theorem lookE_some {k : α} : ∀ {l : List (α × Value)} {i j : Nat} {v : Value}, lookE k l i = some (j, v) → ∃ n, j = i + n ∧ l[n]? = some (k, v)
  | [], _, _, _, h => by simp [lookE] at h
  | p :: r, i, j, v, h => by
    simp only [lookE] at h
    split at h
    · rename_i hk
      simp only [Option.some.injEq, Prod.mk.injEq] at h
      exact ⟨0, by omega, by rw [List.getElem?_cons_zero, hk, ← h.2]⟩
    · obtain ⟨n, hn, hg⟩ := lookE_some h
      exact ⟨n + 1, by omega, by simpa using hg⟩
theorem look_none {k : α} {l : List (α × Value)} : look k l = none ↔ k ∉ keysOf l := by
  constructor
  · intro h; exact lookE_none (by simpa [look] using h)
  · intro h
    cases hl : lookE k l 0 with
    | none => simp [look, hl]
    | some jv =>
      obtain ⟨n, _, hg⟩ := lookE_some (v := jv.2) (j := jv.1) hl
      exact absurd (List.mem_map.2 ⟨_, List.mem_of_getElem? hg, rfl⟩) h
theorem look_some {k : α} {l : List (α × Value)} {v : Value} (h : look k l = some v) : (k, v) ∈ l := by
  cases hl : lookE k l 0 with
  | none => simp [look, hl] at h
  | some jv =>
    simp only [look, hl, Option.map_some, Option.some.injEq] at h
    obtain ⟨n, _, hg⟩ := lookE_some (v := jv.2) (j := jv.1) hl
    rw [h] at hg
    exact List.mem_of_getElem? hg

section ops
variable {P : Program} {ag : Bool} {ks : List LK} {enc : α → Value} {m : Mem} {r : Nat} {l : List (α × Value)}
theorem rd_lenm (h : MapIs enc m r l) : rd .lenm [.map (some r)] m = some (.int .i64 l.length) := by
  obtain ⟨es, c, hm, hh⟩ := h
  show (entriesOf m (.map (some r))).map _ = _
  simp [entriesOf, hm, hh.len]
theorem rd_lkp (K : KeyEnc ag ks enc) (h : MapIs enc m r l) (k : α) (zero : Value) (ok : Bool) : rd (.lkp ag ks zero ok) [.map (some r), enc k] m =
    some (match look k l with | some v => if ok then .tuple #[v, .bool true] else v | none => if ok then .tuple #[zero, .bool false] else zero) := by
  obtain ⟨es, c, hm, hh⟩ := h
  show (if keyOk ag ks (enc k) then (entriesOf m (.map (some r))).bind _ else none) = _
  rw [if_pos (K.ok k)]
  simp only [entriesOf, hm, Option.bind_some, findE_enc K k _ l 0 hh.kv, Option.map_some, look]
  cases lookE k l 0 with
  | none => rfl
  | some jv => rfl

theorem set_map {k : α} {v : Value} : ∀ {l : List (α × Value)} {n : Nat} {u : Value}, (keysOf l).Nodup → l[n]? = some (k, u) → l.set n (k, v) = l.map fun p => if p.1 = k then (k, v) else p
  | [], n, u, _, h => by simp at h
  | p :: r, 0, u, hn, h => by
    simp only [List.getElem?_cons_zero, Option.some.injEq] at h
    subst h
    simp only [keysOf, List.map_cons, List.nodup_cons] at hn
    simp only [List.set_cons_zero, List.map_cons, if_true]
    congr 1
    refine (List.map_id' _).symm.trans (List.map_congr_left fun q hq => ?_)
    rw [if_neg]
    rintro rfl
    exact hn.1 (List.mem_map.2 ⟨q, hq, rfl⟩)
  | p :: r, n + 1, u, hn, h => by
    simp only [List.getElem?_cons_succ] at h
    simp only [keysOf, List.map_cons, List.nodup_cons] at hn
    simp only [List.set_cons_succ, List.map_cons]
    rw [if_neg, set_map hn.2 h]
    intro e
    apply hn.1
    rw [e]
    exact List.mem_map.2 ⟨_, List.mem_of_getElem? h, rfl⟩
theorem erase_filter {k : α} : ∀ {l : List (α × Value)} {n : Nat} {u : Value}, (keysOf l).Nodup → l[n]? = some (k, u) → l.eraseIdx n = delM k l
  | [], n, u, _, h => by simp at h
  | p :: r, 0, u, hn, h => by
    simp only [List.getElem?_cons_zero, Option.some.injEq] at h
    subst h
    simp only [keysOf, List.map_cons, List.nodup_cons] at hn
    simp only [List.eraseIdx_cons_zero, delM, ne_eq, decide_not, List.filter_cons, decide_true, Bool.not_true, Bool.false_eq_true, if_false]
    refine (List.filter_eq_self.2 fun q hq => ?_).symm
    simp only [Bool.not_eq_true', decide_eq_false_iff_not]
    rintro rfl
    exact hn.1 (List.mem_map.2 ⟨q, hq, rfl⟩)
  | p :: r, n + 1, u, hn, h => by
    simp only [List.getElem?_cons_succ] at h
    simp only [keysOf, List.map_cons, List.nodup_cons] at hn
    have hne : p.1 ≠ k := by
      intro e
      apply hn.1
      rw [e]
      exact List.mem_map.2 ⟨_, List.mem_of_getElem? h, rfl⟩
    simp only [List.eraseIdx_cons_succ, erase_filter hn.2 h]
    simp [delM, hne]
theorem erase_map {β γ : Type} (f : β → γ) : ∀ (l : List β) (n : Nat), (l.eraseIdx n).map f = (l.map f).eraseIdx n
  | [], _ => rfl
  | _ :: _, 0 => rfl
  | _ :: r, n + 1 => by simp [erase_map f r n]
theorem delM_none {k : α} {l : List (α × Value)} (h : k ∉ keysOf l) : delM k l = l := by
  refine List.filter_eq_self.2 fun q hq => ?_
  simp only [ne_eq, decide_not, Bool.not_eq_true', decide_eq_false_iff_not]
  rintro rfl
  exact h (List.mem_map.2 ⟨q, hq, rfl⟩)
theorem keys_upd {k : α} {v : Value} {l : List (α × Value)} : keysOf (updM k v l) = if k ∈ keysOf l then keysOf l else keysOf l ++ [k] := by
  unfold updM
  split
  · simp only [keysOf, List.map_map]
    refine List.map_congr_left fun p _ => ?_
    simp only [Function.comp]
    split
    · rename_i e; exact e.symm
    · rfl
  · simp [keysOf]
theorem keys_del {k : α} {l : List (α × Value)} : keysOf (delM k l) = (keysOf l).filter (· ≠ k) := by
  unfold keysOf delM
  rw [List.filter_map]; rfl

theorem mup_own (K : KeyEnc ag ks enc) (h : MapIs enc m r l) {k : α} {v : Value} {K' : Value → Mem → Prop} {lk : Lk K'}
    (hK : ∀ m', MapIs enc m' r (updM k v l) → Fr m m' [r] → (∀ b, m b = none → m' b = none) → K' undef m') : xsP P (.mup ag ks) [.map (some r), enc k, v] m K' lk := by
  obtain ⟨es, c, hm, hh⟩ := h
  refine ⟨r, rfl, K.ok k, es, c, hm, lookE k l 0, findE_enc K k _ l 0 hh.kv, ?_⟩
  have hnone : ∀ o b, m b = none → (m.set r o) b = none := fun o b hb => by
    rw [Mem.set, if_neg]; exact hb
    rintro rfl; rw [hm] at hb; cases hb
  cases hl : lookE k l 0 with
  | none =>
    have hk := lookE_none hl
    refine hK _ ⟨_, _, by simp [Mem.set]; exact ⟨rfl, rfl⟩, ?_, ?_, ?_, ?_⟩ (Fr.set (by simp)) (hnone _)
    · simp [updM, hk, hh.kv]
    · rw [keys_upd, if_neg hk]
      exact List.nodup_append.2 ⟨hh.nd, by simp, fun a ha b hb => by simp at hb; rintro rfl; exact hk (hb ▸ ha)⟩
    · simp only [Array.toList_push, List.map_append, List.map_cons, List.map_nil]
      refine List.nodup_append.2 ⟨hh.bd, by simp, fun a ha b hb => ?_⟩
      simp only [List.mem_singleton] at hb
      obtain ⟨e, he, rfl⟩ := List.mem_map.1 ha
      have := hh.lt e he
      omega
    · intro e he
      simp only [Array.toList_push, List.mem_append, List.mem_singleton] at he
      rcases he with he | rfl
      · have := hh.lt e he; omega
      · exact Nat.lt_succ_self _
  | some jv =>
    obtain ⟨j, u⟩ := jv
    obtain ⟨n, hj, hg⟩ := lookE_some hl
    have hj : n = j := by omega
    subst hj
    have hk : k ∈ keysOf l := List.mem_map.2 ⟨_, List.mem_of_getElem? hg, rfl⟩
    have hlt : n < l.length := (List.getElem?_eq_some_iff.1 hg).1
    have hlt' : n < es.size := by rw [hh.len]; exact hlt
    have hset : (es.modify n fun e => { e with key := enc k, val := v }).toList = es.toList.set n { es[n] with key := enc k, val := v } := by
      apply List.ext_getElem?
      intro i
      simp only [Array.getElem?_toList, Array.getElem?_modify, List.getElem?_set, Array.length_toList]
      split
      · rename_i e; subst e; simp [hlt']
      · rfl
    refine hK _ ⟨_, _, by simp [Mem.set]; exact ⟨rfl, rfl⟩, ?_, ?_, ?_, ?_⟩ (Fr.set (by simp)) (hnone _)
    · rw [hset, List.map_set, hh.kv]
      simp only [updM, if_pos hk]
      rw [← set_map hh.nd hg, List.map_set]
    · rw [keys_upd, if_pos hk]; exact hh.nd
    · rw [hset, List.map_set]
      have : (es.toList.map (·.born)).set n es[n].born = es.toList.map (·.born) := by
        apply List.ext_getElem?
        intro i
        rw [List.getElem?_set]
        split
        · rename_i e; subst e; simp [hlt']
        · rfl
      rw [this]; exact hh.bd
    · intro e he
      rw [hset] at he
      rcases List.mem_or_eq_of_mem_set he with he | rfl
      · exact hh.lt e he
      · exact hh.lt es[n] (by simp)

theorem dlt_own (K : KeyEnc ag ks enc) (h : MapIs enc m r l) {k : α} {K' : Value → Mem → Prop} {lk : Lk K'}
    (hK : ∀ m', MapIs enc m' r (delM k l) → Fr m m' [r] → (∀ b, m b = none → m' b = none) → K' (.tuple #[]) m') : xsP P (.dlt ag ks) [.map (some r), enc k] m K' lk := by
  obtain ⟨es, c, hm, hh⟩ := h
  refine ⟨K.ok k, es, c, hm, lookE k l 0, findE_enc K k _ l 0 hh.kv, ?_⟩
  have hnone : ∀ o b, m b = none → (m.set r o) b = none := fun o b hb => by
    rw [Mem.set, if_neg]; exact hb
    rintro rfl; rw [hm] at hb; cases hb
  cases hl : lookE k l 0 with
  | none =>
    have hk := lookE_none hl
    refine hK _ ⟨es, c, by simp [Mem.set], ?_, ?_, hh.bd, hh.lt⟩ (Fr.set (by simp)) (hnone _)
    · rw [delM_none hk]; exact hh.kv
    · rw [delM_none hk]; exact hh.nd
  | some jv =>
    obtain ⟨j, u⟩ := jv
    obtain ⟨n, hj, hg⟩ := lookE_some hl
    have hj : n = j := by omega
    subst hj
    have hlt : n < l.length := (List.getElem?_eq_some_iff.1 hg).1
    have hlt' : n < es.size := by rw [hh.len]; exact hlt
    have hset : (es.eraseIdxIfInBounds n).toList = es.toList.eraseIdx n := by simp [Array.eraseIdxIfInBounds, hlt']
    refine hK _ ⟨_, _, by simp [Mem.set]; exact ⟨rfl, rfl⟩, ?_, ?_, ?_, ?_⟩ (Fr.set (by simp)) (hnone _)
    · rw [hset, erase_map, hh.kv, ← erase_filter hh.nd hg, erase_map]
    · rw [keys_del]; exact hh.nd.filter _
    · rw [hset, erase_map]; exact hh.bd.sublist (List.eraseIdx_sublist _ _)
    · intro e he
      rw [hset] at he
      exact hh.lt e ((List.eraseIdx_sublist _ _).subset he)

/-- an iterator at block b over the map at block r, which holds l: done are the keys that it has given -/
def IterIs (enc : α → Value) (m : Mem) (b r : Nat) (l : List (α × Value)) (done : List α) : Prop :=
  ∃ es clock seen, m r = some (.map es clock) ∧ MapHas enc es clock l ∧ m b = some (.mapIter (some r) clock seen clock) ∧ done.Nodup ∧ (∀ x ∈ done, x ∈ keysOf l) ∧
    ∀ e ∈ es.toList, ∀ x, e.key = enc x → (seen.contains e.born = true ↔ x ∈ done)

theorem IterIs.map {b : Nat} {done : List α} (h : IterIs enc m b r l done) : MapIs enc m r l := by
  obtain ⟨es, c, seen, hm, hh, _⟩ := h; exact ⟨es, c, hm, hh⟩
theorem IterIs.frame {b : Nat} {done : List α} {m' : Mem} {S : List Nat} (h : IterIs enc m b r l done) (f : Fr m m' S) (hb : b ∉ S) (hr : r ∉ S) : IterIs enc m' b r l done := by
  obtain ⟨es, c, seen, hm, hh, hi, h1⟩ := h; exact ⟨es, c, seen, f.get hm hr, hh, f.get hi hb, h1⟩
theorem IterIs.there {b : Nat} {done : List α} (h : IterIs enc m b r l done) : m b ≠ none := by
  obtain ⟨es, c, seen, hm, hh, hi, h1⟩ := h; rw [hi]; exact Option.some_ne_none _

theorem rng_own (h : MapIs enc m r l) {K' : Value → Mem → Prop} {lk : Lk K'}
    (hK : ∀ b m', m b = none → IterIs enc m' b r l [] → Fr m m' [] → K' (.pointer (some ⟨b, 0, none⟩)) m') : xsP P .rng [.map (some r)] m K' lk := by
  obtain ⟨es, c, hm, hh⟩ := h
  refine ⟨es, c, hm, fun b hb => hK b _ hb ⟨es, c, #[], ?_, hh, by simp [Mem.set], by simp, by simp, fun e he x hx => by simp⟩ (Fr.new _ hb)⟩
  rw [Mem.set, if_neg]
  · exact hm
  · rintro rfl; rw [hm] at hb; cases hb

theorem MapHas.at {es : Array MapEntry} {c : Nat} (h : MapHas enc es c l) {e : MapEntry} (he : e ∈ es.toList) : ∃ p ∈ l, e.key = enc p.1 ∧ e.val = p.2 := by
  have : (e.key, e.val) ∈ l.map (fun p => (enc p.1, p.2)) := by rw [← h.kv]; exact List.mem_map.2 ⟨e, he, rfl⟩
  obtain ⟨p, hp, e1⟩ := List.mem_map.1 this
  simp only [Prod.mk.injEq] at e1
  exact ⟨p, hp, e1.1.symm, e1.2.symm⟩
theorem MapHas.key {es : Array MapEntry} {c : Nat} (h : MapHas enc es c l) {x : α} (hx : x ∈ keysOf l) : ∃ e ∈ es.toList, e.key = enc x := by
  obtain ⟨p, hp, rfl⟩ := List.mem_map.1 hx
  have : (enc p.1, p.2) ∈ es.toList.map (fun e => (e.key, e.val)) := by rw [h.kv]; exact List.mem_map.2 ⟨p, hp, rfl⟩
  obtain ⟨e, he, e1⟩ := List.mem_map.1 this
  simp only [Prod.mk.injEq] at e1
  exact ⟨e, he, e1.1⟩

theorem nodup_born {l : List MapEntry} (h : (l.map (·.born)).Nodup) {e e' : MapEntry} (he : e ∈ l) (he' : e' ∈ l) (hb : e.born = e'.born) : e = e' := by
  induction l with
  | nil => cases he
  | cons x r ih =>
    simp only [List.map_cons, List.nodup_cons] at h
    rcases List.mem_cons.1 he with rfl | h1 <;> rcases List.mem_cons.1 he' with rfl | h2
    · rfl
    · exact absurd (List.mem_map.2 ⟨e', h2, hb.symm⟩) h.1
    · exact absurd (List.mem_map.2 ⟨e, h1, hb⟩) h.1
    · exact ih h.2 h1 h2

theorem MapHas.uniq {es : Array MapEntry} {c : Nat} (K : KeyEnc ag ks enc) (h : MapHas enc es c l) {e e' : MapEntry} (he : e ∈ es.toList) (he' : e' ∈ es.toList) (hk : e.key = e'.key) : e = e' := by
  have hn : (es.toList.map (·.key)).Nodup := by
    have h1 : es.toList.map (·.key) = (keysOf l).map enc := by
      have := congrArg (List.map Prod.fst) h.kv
      simpa [keysOf, List.map_map, Function.comp_def] using this
    rw [h1]
    exact h.nd.map enc fun a b hab e => hab (K.inj e)
  generalize es.toList = L at *
  induction L with
  | nil => cases he
  | cons x r ih =>
    simp only [List.map_cons, List.nodup_cons] at hn
    rcases List.mem_cons.1 he with rfl | h1 <;> rcases List.mem_cons.1 he' with rfl | h2
    · rfl
    · exact absurd (List.mem_map.2 ⟨e', h2, hk.symm⟩) hn.1
    · exact absurd (List.mem_map.2 ⟨e, h1, hk⟩) hn.1
    · exact ih h1 h2 hn.2

theorem nxt_own (K : KeyEnc ag ks enc) {b : Nat} {done : List α} (h : IterIs enc m b r l done) {K' : Value → Mem → Prop} {lk : Lk K'}
    (hend : (keysOf l).Perm done → K' (.tuple #[.bool false]) m)
    (hnext : ∀ k v m', (k, v) ∈ l → k ∉ done → IterIs enc m' b r l (done ++ [k]) → rd .ent [.pointer (some ⟨b, 0, none⟩)] m' = some (.tuple #[enc k, v]) → Fr m m' [b] → (∀ b, m b = none → m' b = none) → K' (.tuple #[.bool true, enc k, v]) m') :
    xsP P .nxt [.pointer (some ⟨b, 0, none⟩)] m K' lk := by
  obtain ⟨es, c, seen, hm, hh, hi, hd, hsub, hs⟩ := h
  have hbr : b ≠ r := by rintro rfl; rw [hm] at hi; cases hi
  refine ⟨rfl, some r, c, seen, c, hi, es, c, hm, ?_, ?_, ?_⟩
  · cases hes : es.toList with
    | nil => simp [show es = #[] from by simpa using hes]
    | cons e r' =>
      have hlt := hh.lt e (by rw [hes]; exact List.mem_cons_self ..)
      have : es.all (fun x => decide (x.born ≥ c)) = false := by
        rw [← Bool.not_eq_true, Array.all_eq_true_iff_forall_mem]
        intro hall
        have := hall e (Array.mem_toList_iff.1 (by rw [hes]; exact List.mem_cons_self ..))
        simp at this; omega
      rw [this]; simp
  · intro hall
    apply hend
    refine (List.perm_ext_iff_of_nodup hh.nd hd).2 fun x => ⟨fun hx => ?_, hsub x⟩
    obtain ⟨e, he, hk⟩ := hh.key hx
    refine (hs e he x hk).1 ?_
    cases hc : seen.contains e.born with
    | true => rfl
    | false => exact absurd (hh.lt e he) (hall e he hc)
  · intro e he hc
    obtain ⟨p, hp, hk, hv⟩ := hh.at he
    have hnd : p.1 ∉ done := fun hx => by
      have := (hs e he p.1 hk).2 hx
      rw [hc] at this; cases this
    rw [hk, hv]
    refine hnext p.1 p.2 _ hp hnd ⟨es, c, seen.push e.born, ?_, hh, by simp [Mem.set], ?_, ?_, ?_⟩ ?_ (Fr.set (by simp)) ?_
    · rw [Mem.set, if_neg (Ne.symm hbr)]; exact hm
    · exact List.nodup_append.2 ⟨hd, by simp, fun a ha b hb => by simp at hb; rintro rfl; exact hnd (hb ▸ ha)⟩
    · intro x hx
      rcases List.mem_append.1 hx with hx | hx
      · exact hsub x hx
      · simp only [List.mem_singleton] at hx; subst hx; exact List.mem_map.2 ⟨p, hp, rfl⟩
    · intro e' he' x hx
      simp only [Array.contains_push, Bool.or_eq_true, beq_iff_eq, List.mem_append, List.mem_singleton, hs e' he' x hx]
      constructor
      · rintro (h1 | h1)
        · exact .inl h1
        · have := nodup_born hh.bd he' he h1
          subst this
          exact .inr (K.inj (hx.symm.trans hk))
      · rintro (h1 | h1)
        · exact .inl h1
        · subst h1
          exact .inr (congrArg (·.born) (hh.uniq K he' he (hx.trans hk.symm)))
    · rw [show ∀ m a, rd .ent [.pointer (some a)] m = entRead m a from fun _ _ => rfl]
      have hfind : es.find? (fun x => x.born == e.born) = some e := by
        rw [← Array.find?_toList]
        have hmem := he
        have hbd := hh.bd
        generalize es.toList = L at hmem hbd
        induction L with
        | nil => cases hmem
        | cons x rr ih =>
          rw [List.find?_cons]
          by_cases hx : x.born = e.born
          · simp only [hx, beq_self_eq_true]
            exact congrArg some (nodup_born hbd (List.mem_cons_self ..) hmem hx)
          · have : (x.born == e.born) = false := by simpa using hx
            simp only [this]
            refine ih ?_ (List.nodup_cons.1 hbd).2
            rcases List.mem_cons.1 hmem with rfl | hm'
            · exact absurd rfl hx
            · exact hm'
      simp only [entRead, if_true, Mem.set, Array.back?_push, if_neg (Ne.symm hbr), hm, hfind, Option.map_some, hk, hv]
    · intro b' hb'
      rw [Mem.set, if_neg]
      · exact hb'
      · rintro rfl; rw [hi] at hb'; cases hb'
/-- one entry is struck while the map is gone through -/
theorem dlt_iter (K : KeyEnc ag ks enc) {b : Nat} {done : List α} (h : IterIs enc m b r l done) {k : α} {K' : Value → Mem → Prop} {lk : Lk K'}
    (hK : ∀ m', IterIs enc m' b r (delM k l) (done.filter (· ≠ k)) → Fr m m' [r] → (∀ b, m b = none → m' b = none) → K' (.tuple #[]) m') : xsP P (.dlt ag ks) [.map (some r), enc k] m K' lk := by
  obtain ⟨es, c, seen, hm, hh, hi, hd, hsub, hs⟩ := h
  have hbr : b ≠ r := by rintro rfl; rw [hm] at hi; cases hi
  refine ⟨K.ok k, es, c, hm, lookE k l 0, findE_enc K k _ l 0 hh.kv, ?_⟩
  have hnone : ∀ o b, m b = none → (m.set r o) b = none := fun o b hb => by
    rw [Mem.set, if_neg]; exact hb
    rintro rfl; rw [hm] at hb; cases hb
  cases hl : lookE k l 0 with
  | none =>
    have hk := lookE_none hl
    have hdk : done.filter (· ≠ k) = done := List.filter_eq_self.2 fun x hx => by simp; rintro rfl; exact hk (hsub _ hx)
    refine hK _ ⟨es, c, seen, by simp [Mem.set], ?_, ?_, ?_, ?_, ?_⟩ (Fr.set (by simp)) (hnone _)
    · rw [delM_none hk]; exact hh
    · rw [Mem.set, if_neg hbr]; exact hi
    · rw [hdk]; exact hd
    · rw [hdk, delM_none hk]; exact hsub
    · rw [hdk]; exact hs
  | some jv =>
    obtain ⟨j, u⟩ := jv
    obtain ⟨n, hj, hg⟩ := lookE_some hl
    have hj : n = j := by omega
    subst hj
    have hlt : n < l.length := (List.getElem?_eq_some_iff.1 hg).1
    have hlt' : n < es.size := by rw [hh.len]; exact hlt
    have hset : (es.eraseIdxIfInBounds n).toList = es.toList.eraseIdx n := by simp [Array.eraseIdxIfInBounds, hlt']
    refine hK _ ⟨_, _, seen, by simp [Mem.set]; exact ⟨rfl, rfl⟩, ⟨?_, ?_, ?_, ?_⟩, ?_, ?_, ?_, ?_⟩ (Fr.set (by simp)) (hnone _)
    · rw [hset, erase_map, hh.kv, ← erase_filter hh.nd hg, erase_map]
    · rw [keys_del]; exact hh.nd.filter _
    · rw [hset, erase_map]; exact hh.bd.sublist (List.eraseIdx_sublist _ _)
    · intro e he
      rw [hset] at he
      exact hh.lt e ((List.eraseIdx_sublist _ _).subset he)
    · rw [Mem.set, if_neg hbr]; exact hi
    · exact hd.filter _
    · intro x hx
      rw [keys_del]
      rw [List.mem_filter] at hx ⊢
      exact ⟨hsub x hx.1, hx.2⟩
    · intro e he x hx
      rw [hset] at he
      have he' := (List.eraseIdx_sublist _ _).subset he
      rw [hs e he' x hx, List.mem_filter]
      refine ⟨fun h => ⟨h, ?_⟩, fun h => h.1⟩
      simp only [ne_eq, decide_not, Bool.not_eq_true', decide_eq_false_iff_not]
      rintro rfl
      -- its key is no more there
      have hkeys : (es.toList.eraseIdx n).map (·.key) = (keysOf (delM x l)).map enc := by
        have h1 : (es.toList.eraseIdx n).map (fun e => (e.key, e.val)) = (delM x l).map (fun p => (enc p.1, p.2)) := by
          rw [erase_map, hh.kv, ← erase_filter hh.nd hg, erase_map]
        have := congrArg (List.map Prod.fst) h1
        simpa [keysOf, List.map_map, Function.comp_def] using this
      have hmem : e.key ∈ (es.toList.eraseIdx n).map (·.key) := List.mem_map.2 ⟨e, he, rfl⟩
      rw [hkeys, keys_del] at hmem
      obtain ⟨y, hy, hye⟩ := List.mem_map.1 hmem
      rw [hx] at hye
      have := K.inj hye
      subst this
      simp at hy
end ops
end Go.Fw
