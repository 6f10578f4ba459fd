import Derived.Test.YtnpldldflbeogaaFwLaw
import Derived.Test.YtnpldldflbeogaaGrSmall
namespace Go.Fw
open Go.RowKit Go.ChangeShapes

theorem rd1_of {W : World} {a : Option Addr} {l : List Value} (h0 : a = none → l = []) (h : ∀ a', a = some a' → ∀ c (hc : c < l.length), W.cell? (a'.add c) = some l[c]) : Rd1 (absM W) a l := by
  cases a with
  | none => exact .inl (h0 rfl)
  | some a =>
    by_cases hl : l = []
    · exact .inl hl
    · obtain ⟨b, o, s⟩ := a
      have hpos : 0 < l.length := List.length_pos_iff.2 hl
      have hs : s = none := by simpa [Addr.add] using World.cell?_spot (h _ rfl 0 hpos)
      subst hs
      refine .inr ⟨b, o, rfl, fun i v hv => ?_⟩
      obtain ⟨hi, rfl⟩ := List.getElem?_eq_some_iff.1 hv
      have := h _ rfl i hi
      rw [add_mk, ← cell_abs, cell_mk] at this
      exact this

/-- a slice of slices of numbers, as it came in -/
theorem arows_of {H : Type} {enc : TypeId × Value → H} {P : Program} {W : World} {base : Nat} {held : Bool} {t e q : TypeId} {fuel : Nat} {v : Value} {x : DataW H × List MemPlace} (ht : P.underlying t = some (.slice e)) (he : P.underlying e = some (.slice q)) (hq : P.underlying q = some (.int .i64))
    (ce : P.cellsOf e = 1) (cq : P.cellsOf q = 1) (hv : ∃ a n c, v = .slice a n c) (h : DataW.trod enc P W base (fun _ => true) held fuel t v.cells.toList = some x) : ∃ n E, ARows (absM W) n v E := by
  obtain ⟨a0, n0, c0, rfl⟩ := hv
  have hcs : (Value.slice a0 n0 c0).cells.toList = [.slice a0 n0 c0] := rfl
  rw [hcs] at h
  rcases Deep.open_int_rows ht he hq ce cq h with ⟨h1, _⟩ | ⟨a, len, cap, A, L, C, Z, h1, _, hl, hm, _, hrows⟩
  · cases h1
    exact ⟨0, fun _ => [], none, 0, [], rfl, Nat.le_refl _, rfl, .inl rfl, by omega⟩
  · cases h1
    refine ⟨n0, fun r => (Z r).take (L r), some a, c0, (List.range n0).map fun r => .slice (A r) (L r) (C r), rfl, hl, by simp, ?_, fun r hr => ?_⟩
    · refine rd1_of (fun h => by cases h) fun a' ha c hc => ?_
      cases ha
      simp only [List.length_map, List.length_range] at hc
      simpa using (hrows c (by omega)).1
    · obtain ⟨h1, h2, h3, h4, h5, h6, h7⟩ := hrows r (by omega)
      have hlen : ((Z r).take (L r)).length = L r := by rw [List.length_take]; omega
      refine ⟨A r, C r, ?_, by rw [hlen]; exact h2, ?_⟩
      · rw [hlen]; simp [hr]
      · refine rd1_of (fun h => ?_) fun a' ha c hc => ?_
        · have := h6 h
          have : (Z r).take (L r) = [] := List.eq_nil_of_length_eq_zero (by omega)
          show ints ((Z r).take (L r)) = []
          rw [this]; rfl
        · simp only [ints, List.length_map, hlen] at hc
          have := (h7 a' ha).2 c (by omega)
          rw [this]
          simp [ints, List.getElem_take, List.getD, List.getElem?_eq_getElem (show c < (Z r).length by omega)]
end Go.Fw
