import Derived.Test.YthmfahaebogibaaFxB
import Derived.Shelf.SlSortCmp.WholeK
set_option linter.unusedVariables false
set_option linter.unusedSimpArgs false
/-! slices.SortFunc over elements of k cells: the library's contract, told of abstract memory. -/
namespace Go.Fw
open Go Go.Proofs Go.Shelf Go.Sort
variable {α : Type} [Inhabited α]

theorem grow_of {w w' : World} (hs : Side w w') (hf : Fr (absM w) (absM w') []) : ∃ q os, w' = grow (w.drewN q) os := by
  have hb := (below_of hs hf).block
  refine ⟨w'.drawn - w.drawn, w'.heap.extract w.heap.size w'.heap.size, ?_⟩
  have hheap : w'.heap = w.heap ++ w'.heap.extract w.heap.size w'.heap.size := by
    apply Array.ext_getElem?
    intro i
    rw [Array.getElem?_append]
    split
    · rename_i h; exact hb i h
    · rename_i h
      rw [Array.getElem?_extract]
      split
      · congr 1; omega
      · rename_i h2; exact Array.getElem?_eq_none (by omega)
  obtain ⟨h1, h2, h3, h4, h5⟩ := hs
  have hd : w'.drawn = w.drawn + (w'.drawn - w.drawn) := by omega
  cases w'; cases w
  simp only at h1 h2 h4 hd hheap
  subst h1 h2 h4
  simp only [grow, World.drewN]
  congr 1

theorem flat_len {β : Type} {enc : β → List Value} {k : Nat} (hk : ∀ x, (enc x).length = k) : ∀ l : List β, (l.flatMap enc).length = l.length * k
  | [] => by simp
  | x :: r => by rw [List.flatMap_cons, List.length_append, hk, flat_len hk r, List.length_cons, Nat.add_mul]; omega
theorem flat_get {enc : α → List Value} {k : Nat} (hk : ∀ x, (enc x).length = k) (k0 : 0 < k) : ∀ (l : List α) (t : Nat), t < l.length * k → (l.flatMap enc)[t]! = (enc l[t / k]!)[t % k]!
  | [], t, h => by simp at h
  | x :: r, t, h => by
    rw [List.flatMap_cons]
    by_cases ht : t < k
    · rw [Nat.div_eq_of_lt ht, Nat.mod_eq_of_lt ht]
      simp [List.getElem?_append, hk, ht]
    · have h1 : t / k = (t - k) / k + 1 := Nat.div_eq_sub_div k0 (Nat.le_of_not_lt ht)
      have h2 : t % k = (t - k) % k := Nat.mod_eq_sub_mod (Nat.le_of_not_lt ht)
      have ih := flat_get hk k0 r (t - k) (by rw [List.length_cons, Nat.add_mul] at h; omega)
      rw [h1, h2]
      simp only [List.getElem!_cons_succ]
      rw [← ih]
      simp [List.getElem?_append, hk, ht]
theorem flatK_eq {enc : α → List Value} {k : Nat} (hk : ∀ x, (enc x).length = k) (k0 : 0 < k) (d : Array α) : flatK enc k d = (d.toList.flatMap enc).toArray := by
  refine ext_get! (by simp [flat_len hk]) fun t ht => ?_
  rw [size_flatK] at ht
  rw [get_flatK _ _ _ _ ht]
  have := flat_get hk k0 d.toList t (by simpa using ht)
  rw [show d.toList[t / k]! = d[t / k]! from by rw [Array.getElem!_eq_getD]; simp [Array.getD_eq_getD_getElem?]] at this
  rw [← this]; simp

/-- **slices.SortFunc** on a row of the call's own (or any that may be written) -/
theorem sort_MC {P : Program} {ρ : Ren} (L : SlLaysF0.n6 P ρ) (k : Nat) (k0 : 0 < k) (aE : ∀ w, (isAgg (ρ.t 24)).run P w = .ok true w) (zE : ∀ w, (Go.sizeOf (ρ.t 24)).run P w = .ok k w)
    (enc : α → List Value) (hk : ∀ x, (enc x).length = k) (h1 : ∀ x, ∀ v ∈ enc x, v.oneCell' = true) (cf : α → α → Int) (hO : SWO (ltOf cf)) (g : Nat)
    (eg : ∀ args w, (callFunc g args).run P w = .ok (.enter g args) w)
    (hc : ∀ x y m, MC P g [.agg (enc x).toArray, .agg (enc y).toArray] m fun v m' => v = .int .i64 (cf x y) ∧ Fr m m' [])
    {m : Mem} {b cap : Nat} {l : List α} {tail : List Value} {T : TypeId} (hb : m b = some (.cells (l.flatMap enc ++ tail).toArray T (0, 0))) (hl : l.length < 4611686018427387904) :
    MC P (ρ.f 6) [.slice (some ⟨b, 0, none⟩) l.length cap, .func (.func g) #[] #[]] m fun v m' => v = .tuple #[] ∧ ∃ l' : List α, l'.Perm l ∧ l'.Pairwise (fun x y => ltOf cf y x = false) ∧
      m' b = some (.cells (l'.flatMap enc ++ tail).toArray T (0, 0)) ∧ Fr m m' [b] := by
  intro w hw
  subst hw
  have hbw : w.heap[b]? = some (.cells (l.flatMap enc ++ tail).toArray T (0, 0)) := hb
  have hlt : b < w.heap.size := (Array.getElem?_eq_some_iff.1 hbw).1
  have hH : HoldsK enc k w b 0 l.toArray := by
    intro j hj
    rw [flatK_eq hk k0] at hj ⊢
    simp only [List.size_toArray] at hj
    constructor
    · simp only [World.cell?, hbw, Option.isSome_none, Bool.false_eq_true, if_false, Nat.zero_add, id]
      simp only [List.getElem?_toArray, List.getElem?_append_left hj]
      rw [List.getElem?_eq_getElem hj]
      simp
      rw [List.getElem?_eq_getElem hj]; rfl
    · simp only [World.frozen?, hbw]; simp
  have hcmp : CmpLays P g #[] enc k cf b 0 l.toArray.size w := by
    intro n os dk hs x y
    refine (hc x y _ _ rfl).mono fun e w' ⟨v, he, hside, hv, hf⟩ => ⟨by rw [he, hv], grow_of hside hf⟩
  have hcon := AnyQ.slices_SortFunc L k aE zE enc hk h1 cf hO g #[] b 0 cap l.toArray w eg hcmp hH hlt (by simpa using hl)
  simp only [List.size_toArray] at hcon
  refine hcon.mono fun e w' ⟨he, d', n, os, hp, hs, hw'⟩ => ⟨_, he, ?_, rfl, d'.toList, ?_, ?_, ?_, ?_⟩
  · subst hw'
    refine ⟨rfl, rfl, ?_, rfl, ?_⟩
    · simp only [sortWorldK, putRowK, putRow, mapBlock, grow, Sort.ahead, Array.size_append, Array.size_modify]; omega
    · simp only [sortWorldK, putRowK, putRow, mapBlock, grow, Sort.ahead]; omega
  · have h3 := hp.2.2
    have hsz := hp.1
    simp only [List.size_toArray] at hsz
    have e1 : d'.extract 0 l.length = d' := by rw [← hsz]; simp
    rw [e1] at h3
    simpa using h3
  · have hsz := hp.1
    simp only [List.size_toArray] at hsz
    rw [List.pairwise_iff_getElem]
    intro i j hi hj hij
    have := hs i j (Nat.zero_le _) hij (by simp at hj; omega)
    simp only [Array.length_toList] at hi hj
    rw [getElem!_pos d' j hj, getElem!_pos d' i hi] at this
    simpa using this
  · subst hw'
    have hsz := hp.1
    simp only [List.size_toArray] at hsz
    show (grow (putRowK enc k (Sort.ahead w n) b 0 d') os).heap[b]? = _
    have hlt2 : b < (putRowK enc k (Sort.ahead w n) b 0 d').heap.size := by
      simp only [putRowK, putRow, mapBlock, Sort.ahead, Array.size_modify]; exact hlt
    rw [heap_grow_old _ _ hlt2]
    simp only [putRowK, putRow, mapBlock, Sort.ahead, Array.getElem?_modify, if_true, hbw, Option.map_some, onCells]
    congr 2
    apply Array.ext_getElem?
    intro i
    have hfl : (d'.toList.flatMap enc).length = l.length * k := by rw [flat_len hk]; simp [hsz]
    have hfl0 : (l.flatMap enc).length = l.length * k := flat_len hk l
    simp only [putCells, Array.getElem?_mapIdx, List.getElem?_toArray, flatK_eq hk k0, List.size_toArray, Nat.zero_le, true_and, Nat.zero_add, Nat.sub_zero, id]
    by_cases hi : i < l.length * k
    · rw [List.getElem?_append_left (by omega), List.getElem?_append_left (by omega), List.getElem?_eq_getElem (by omega), List.getElem?_eq_getElem (by omega)]
      simp only [Option.map_some, hfl, hi, if_true, Option.some.injEq]
      rw [List.getElem!_toArray]
      exact getElem!_pos _ i (by omega)
    · rw [List.getElem?_append_right (by omega), List.getElem?_append_right (by omega), hfl, hfl0]
      simp only [hi, if_false, Option.map_id']
  · subst hw'
    intro x hx hxb
    have hxl : x < w.heap.size := by
      rcases Nat.lt_or_ge x w.heap.size with h | h
      · exact h
      · exact absurd (Array.getElem?_eq_none h) hx
    show (grow (putRowK enc k (Sort.ahead w n) b 0 d') os).heap[x]? = w.heap[x]?
    have hlt2 : x < (putRowK enc k (Sort.ahead w n) b 0 d').heap.size := by
      simp only [putRowK, putRow, mapBlock, Sort.ahead, Array.size_modify]; exact hxl
    rw [heap_grow_old _ _ hlt2]
    simp only [List.mem_singleton] at hxb
    simp only [putRowK, putRow, mapBlock, Sort.ahead, Array.getElem?_modify]
    rw [if_neg (fun e => hxb e.symm)]
end Go.Fw
