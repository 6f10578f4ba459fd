import Derived.Test.YtadkdbnikmkgfaaFxLaw
import Derived.Test.YtadkdbnikmkgfaaFvEq
import Derived.Deep.Slices
/-! Arguments opened: flat values (numbers, bools, strings, structs and arrays of them), and slices of flat values. -/
namespace Go.Fw
open Go.RowKit Go.ChangeShapes Go.WideShapes

def LeafV : LK → Value → Prop
  | .b, v => ∃ b, v = .bool b
  | .i k, v => ∃ n, v = .int k n ∧ (Lit.int k n).wf = true
  | .s, v => ∃ s : ByteArray, v = .string s ∧ s.size ≤ maxLen
def Leaves : List LK → List Value → Prop
  | [], [] => True
  | k :: ks, v :: vs => LeafV k v ∧ Leaves ks vs
  | _, _ => False
theorem Leaves.length : ∀ {ks : List LK} {vs : List Value}, Leaves ks vs → vs.length = ks.length
  | [], [], _ => rfl
  | _ :: ks, _ :: vs, h => by simp [Leaves.length h.2]
  | [], _ :: _, h => h.elim
  | _ :: _, [], h => h.elim
theorem Leaves.append : ∀ {k1 k2 : List LK} {l1 l2 : List Value}, Leaves k1 l1 → Leaves k2 l2 → Leaves (k1 ++ k2) (l1 ++ l2)
  | [], _, [], _, _, h => h
  | _ :: _, _, _ :: _, _, h, g => ⟨h.1, Leaves.append h.2 g⟩
  | [], _, _ :: _, _, h, _ => h.elim
  | _ :: _, _, [], _, h, _ => h.elim

section
variable {H : Type} {enc : TypeId × Value → H} {P : Program} {w : World} {base : Nat} {spare : Nat → Bool} {held : Bool}
theorem cellsOf_leaves {d : Nat} {t : TypeId} {ks : List LK} (h : leavesOf P d t = some ks) : P.cellsOf t = ks.length := by
  obtain ⟨i, hi, hs⟩ := leavesOf_size h
  simp [Program.cellsOf, hi, hs]

theorem leaves_trod : ∀ (d : Nat) (t : TypeId) (ks : List LK) (fuel : Nat) (cs : List Value) (x : DataW H × List MemPlace), leavesOf P d t = some ks → DataW.trod enc P w base spare held fuel t cs = some x → Leaves ks cs
  | 0, _, _, _, _, _, h, _ => by cases h
  | d + 1, t, ks, fuel, cs, x, h, ht => by
    simp only [leavesOf] at h
    split at h
    · rename_i hu
      obtain ⟨rfl, _⟩ := sized_inv h
      obtain ⟨b, rfl, _⟩ := DataW.trod_bool hu ht
      exact ⟨⟨b, rfl⟩, trivial⟩
    · rename_i k hu
      obtain ⟨rfl, _⟩ := sized_inv h
      obtain ⟨n, rfl, _, hw⟩ := DataW.trod_int hu ht
      exact ⟨⟨n, rfl, hw⟩, trivial⟩
    · rename_i hu
      obtain ⟨rfl, _⟩ := sized_inv h
      obtain ⟨s, rfl, _, hs⟩ := DataW.trod_string hu ht
      exact ⟨⟨s, rfl, hs⟩, trivial⟩
    · rename_i fs hu
      split at h
      · cases h
      obtain ⟨l, hl, h⟩ := Option.bind_eq_some_iff.1 h
      obtain ⟨rfl, i, hi, hsz⟩ := sized_inv h
      obtain ⟨xs, n, _, _, hlen, hxs, hf⟩ := DataW.trod_struct hu ht
      have hcl : P.cellsOf t = ks.length := by simp [Program.cellsOf, hi, hsz]
      rw [hcl] at hlen
      have go : ∀ (r : List Field) (j off : Nat) (l : List LK), (∀ i f, r[i]? = some f → fs[j + i]? = some f) → fieldsLeaves (leavesOf P d) r off = some l → off + l.length ≤ cs.length → Leaves l ((cs.drop off).take l.length) := by
        intro r
        induction r with
        | nil => intro j off l _ hl _; simp only [fieldsLeaves, Option.some.injEq] at hl; subst hl; simp [Leaves]
        | cons f r ih =>
          intro j off l hin hl hle
          simp only [fieldsLeaves] at hl
          split at hl
          case isFalse => cases hl
          rename_i hoff
          obtain ⟨l1, h1, hl⟩ := Option.bind_eq_some_iff.1 hl
          obtain ⟨l2, h2, rfl⟩ := Option.map_eq_some_iff.1 hl
          rw [List.length_append] at hle
          have hfj := hin 0 f rfl
          rw [Nat.add_zero] at hfj
          have hj := (Array.getElem?_eq_some_iff.1 hfj).1
          have h3 := hf j f hfj
          rw [List.getElem?_eq_getElem (by omega)] at h3
          rw [hoff.2, cellsOf_leaves h1] at h3
          have a1 := leaves_trod d f.type l1 n _ _ h1 h3
          have a2 := ih (j + 1) (off + l1.length) l2 (fun i f hi => by rw [Nat.add_assoc, Nat.add_comm 1]; exact hin (i + 1) f (by simpa using hi)) h2 (by omega)
          have := a1.append a2
          rw [List.length_append, List.take_add, List.drop_drop]
          exact this
      have := go fs.toList 0 0 ks (fun i f hi => by simpa using hi) hl (by omega)
      rw [List.drop_zero, List.take_of_length_le (by omega)] at this
      exact this
    · rename_i n e hu
      obtain ⟨l, hl, h⟩ := Option.bind_eq_some_iff.1 h
      obtain ⟨rfl, i, hi, hsz⟩ := sized_inv h
      obtain ⟨xs, m, _, _, hlen, hxs, hf⟩ := DataW.trod_array hu ht
      have hcl : P.cellsOf t = n * l.length := by simp [Program.cellsOf, hi, hsz]
      rw [hcl] at hlen
      have hce := cellsOf_leaves hl
      rw [hce] at hf
      have go : ∀ (k j : Nat), j + k ≤ n → Leaves (List.replicate k l).flatten ((cs.drop (j * l.length)).take (k * l.length)) := by
        intro k
        induction k with
        | zero => intro j _; simp [Leaves]
        | succ k ih =>
          intro j hj
          have h3 := hf j (by omega)
          rw [List.getElem?_eq_getElem (by omega)] at h3
          have a1 := leaves_trod d e l m _ _ hl h3
          have a2 := ih (j + 1) (by omega)
          have := a1.append a2
          rw [List.replicate_succ, List.flatten_cons, Nat.add_mul, Nat.one_mul, Nat.add_comm (k * l.length), List.take_add, List.drop_drop]
          rw [Nat.add_mul, Nat.one_mul] at this
          exact this
      have := go n 0 (by omega)
      rw [Nat.zero_mul, List.drop_zero, List.take_of_length_le (by omega)] at this
      exact this
    · cases h

/-- a flat struct or array that came in -/
theorem open_flat {r : Reach} {b0 : Nat} {t : TypeId} {ks : List LK} {v : Value} {d : DataW H} {p : List MemPlace} (ha : aggT P t = true) (hk : leavesOf P 10000 t = some ks) (hv : Value.okWide P w r b0 t v) (h : DataW.Trod enc P w base spare held t v d p) :
    ∃ cs : List Value, v = .agg cs.toArray ∧ Leaves ks cs := by
  obtain ⟨fuel, hf⟩ := h
  have hl := leaves_trod _ _ _ _ _ _ hk hf
  have : ∃ cs, v = .agg cs := by
    unfold aggT at ha
    split at ha
    · rename_i fs hu
      obtain ⟨cs, rfl, _⟩ := okWide_struct hu hv
      exact ⟨cs, rfl⟩
    · rename_i n e hu
      simp only [Value.okWide, hu] at hv
      obtain ⟨cs, h1, _⟩ := hv
      exact ⟨cs, h1⟩
    · cases ha
  obtain ⟨cs, rfl⟩ := this
  exact ⟨cs.toList, by simp, hl⟩

/-- a slice of flat values that came in -/
theorem open_rows {r : Reach} {b0 : Nat} {t e : TypeId} {ks : List LK} {v : Value} {d : DataW H} {p : List MemPlace} (ht : P.underlying t = some (.slice e)) (hk : leavesOf P 10000 e = some ks) (k0 : 0 < ks.length) (hv : Value.okWide P w r b0 t v) (h : DataW.Trod enc P w base spare held t v d p) :
    ∃ (L : List (List Value)) (a : Option Addr) (c : Nat), v = .slice a L.length c ∧ L.length ≤ c ∧ (∀ cs ∈ L, Leaves ks cs) ∧ L.length ≤ 9223372036854775807 ∧ Rd1 (absM w) a L.flatten := by
  obtain ⟨fuel, hf⟩ := h
  obtain ⟨a0, n0, c0, rfl⟩ := okWide_slice ht hv
  have hcs : (Value.slice a0 n0 c0).cells.toList = [.slice a0 n0 c0] := rfl
  rw [hcs] at hf
  rcases Deep.open_slice ht hf with ⟨h1, _⟩ | ⟨a, len, cap, m, n, D, Pl, h1, _, hl, hm, hmm, _, hrows⟩
  · cases h1
    exact ⟨[], none, 0, rfl, by simp, by simp, by simp, .inl rfl⟩
  · cases h1
    have hmm' : n0 ≤ m := by rw [hmm]; split <;> omega
    have hce := cellsOf_leaves hk
    rw [hce] at hrows
    have hex : ∀ i : Nat, ∃ cs : List Value, i < n0 → Leaves ks cs ∧ ∀ j, j < ks.length → w.cell? (a.add (i * ks.length + j)) = cs[j]? := by
      intro i
      by_cases hi : i < n0
      · obtain ⟨cs, h2, h3⟩ := hrows i (by omega)
        refine ⟨cs, fun _ => ⟨leaves_trod _ _ _ _ _ _ hk h3, fun j hj => ?_⟩⟩
        rw [← Deep.add_add]
        exact (World.cells?_some h2).2.2 j hj
      · exact ⟨[], fun h => absurd h hi⟩
    obtain ⟨C, hC⟩ := Classical.axiomOfChoice hex
    refine ⟨(List.range n0).map C, some a, c0, by simp, by simpa using hl, ?_, ?_, ?_⟩
    · intro cs hcs
      obtain ⟨i, hi, rfl⟩ := List.mem_map.1 hcs
      exact (hC i (List.mem_range.1 hi)).1
    · rw [List.length_map, List.length_range]; unfold maxLen at hm; omega
    · have hflat : ∀ n, n ≤ n0 → (((List.range n).map C).flatten.length = n * ks.length) ∧ ∀ i v, ((List.range n).map C).flatten[i]? = some v → w.cell? (a.add i) = some v := by
        intro n
        induction n with
        | zero => intro _; simp
        | succ n ih =>
          intro hn
          obtain ⟨h1, h2⟩ := ih (by omega)
          have hn' := hC n (by omega)
          have hlen := hn'.1.length
          rw [List.range_succ, List.map_append, List.flatten_append]
          simp only [List.map_cons, List.map_nil, List.flatten_cons, List.flatten_nil, List.append_nil]
          refine ⟨by rw [List.length_append, h1, hlen, Nat.add_mul, Nat.one_mul], fun i v hv => ?_⟩
          rw [List.getElem?_append] at hv
          split at hv
          · exact h2 i v hv
          · rename_i hge
            have hi := (List.getElem?_eq_some_iff.1 hv).1
            have := hn'.2 (i - n * ks.length) (by omega)
            rw [show n * ks.length + (i - n * ks.length) = i from by omega] at this
            rw [this, ← h1]; exact hv
      obtain ⟨h1, h2⟩ := hflat n0 (Nat.le_refl _)
      by_cases h0 : ((List.range n0).map C).flatten = []
      · exact .inl h0
      · obtain ⟨b, o, s⟩ := a
        have hpos := List.length_pos_iff.2 h0
        have hs : s = none := by
          have := h2 0 _ (List.getElem?_eq_getElem hpos)
          simpa [Addr.add] using World.cell?_spot this
        subst hs
        refine .inr ⟨b, o, rfl, fun i v hv => ?_⟩
        have := h2 i v hv
        rw [add_mk, ← cell_abs, cell_mk] at this
        exact this
end
end Go.Fw
