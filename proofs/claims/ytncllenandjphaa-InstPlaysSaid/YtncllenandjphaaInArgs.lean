import Derived.Test.YtncllenandjphaaFvArgs
import Derived.Test.YtncllenandjphaaInNext
/-! Chapter 6's arguments. -/
namespace Go.Fw
open Go.RowKit Go.ChangeShapes Go.WideShapes Go.Proofs
def R64 (n : Int) : Prop := -9223372036854775808 ≤ n ∧ n ≤ 9223372036854775807
theorem r64_of {n : Int} (h : (Lit.int .i64 n).wf = true) : R64 n := by
  simp [Lit.wf, IntKind.min, IntKind.max, IntKind.bits, IntKind.signed] at h
  exact ⟨by omega, by omega⟩
theorem int_of {cs : List Value} (h : Leaves [.i .i64] cs) : ∃ a, cs = [.int .i64 a] ∧ R64 a := by
  rcases cs with _ | ⟨v, _ | ⟨_, _⟩⟩
  · exact h.elim
  · obtain ⟨⟨a, rfl, ha⟩, _⟩ := h; exact ⟨a, rfl, r64_of ha⟩
  · exact h.2.elim
theorem pair_of {cs : List Value} (h : Leaves [.i .i64, .i .i64] cs) : ∃ a b, cs = [.int .i64 a, .int .i64 b] ∧ R64 a ∧ R64 b := by
  rcases cs with _ | ⟨v, cs⟩
  · exact h.elim
  · obtain ⟨⟨a, rfl, ha⟩, h⟩ := h
    obtain ⟨b, rfl, hb⟩ := int_of h
    exact ⟨a, b, rfl, r64_of ha, hb⟩
theorem triple_of {cs : List Value} (h : Leaves [.i .i64, .i .i64, .i .i64] cs) : ∃ a b c, cs = [.int .i64 a, .int .i64 b, .int .i64 c] ∧ R64 a ∧ R64 b ∧ R64 c := by
  rcases cs with _ | ⟨v, cs⟩
  · exact h.elim
  · obtain ⟨⟨a, rfl, ha⟩, h⟩ := h
    obtain ⟨b, c, rfl, hb⟩ := pair_of h
    exact ⟨a, b, c, rfl, r64_of ha, hb⟩
theorem ints_of : ∀ {L : List (List Value)}, (∀ cs ∈ L, Leaves [.i .i64] cs) → ∃ l : List Int, l.length = L.length ∧ L.flatten = ints l
  | [], _ => ⟨[], rfl, rfl⟩
  | cs :: L, h => by
    obtain ⟨a, rfl, _⟩ := int_of (h cs (List.mem_cons_self ..))
    obtain ⟨l, h1, h2⟩ := ints_of (L := L) fun c hc => h c (List.mem_cons_of_mem _ hc)
    exact ⟨a :: l, by simp [h1], by simp [h2, ints]⟩
theorem prs_of : ∀ {L : List (List Value)}, (∀ cs ∈ L, Leaves [.i .i64, .i .i64] cs) → ∃ l : List (Int × Int), l.length = L.length ∧ L.flatten = prs l
  | [], _ => ⟨[], rfl, rfl⟩
  | cs :: L, h => by
    obtain ⟨a, b, rfl, _⟩ := pair_of (h cs (List.mem_cons_self ..))
    obtain ⟨l, h1, h2⟩ := prs_of (L := L) fun c hc => h c (List.mem_cons_of_mem _ hc)
    exact ⟨(a, b) :: l, by simp [h1], by simp [h2, prs_cons]⟩
section
variable {H : Type} {enc : TypeId × Value → H} {P : Program} {w : World} {base : Nat} {spare : Nat → Bool} {held : Bool}
theorem open_ints {r : Reach} {b0 : Nat} {t e : TypeId} {v : Value} {d : DataW H} {p : List MemPlace} (ht : P.underlying t = some (.slice e)) (hk : leavesOf P 10000 e = some [.i .i64]) (hv : Value.okWide P w r b0 t v) (h : DataW.Trod enc P w base spare held t v d p) :
    ∃ l, RdI (absM w) v l ∧ l.length ≤ 9223372036854775807 := by
  obtain ⟨L, a, c, rfl, hc, hL, hn, hr⟩ := open_rows ht hk (by decide) hv h
  obtain ⟨l, h1, h2⟩ := ints_of hL
  exact ⟨l, ⟨a, c, by rw [h1], h2 ▸ hr⟩, by omega⟩
theorem open_prs {r : Reach} {b0 : Nat} {t e : TypeId} {v : Value} {d : DataW H} {p : List MemPlace} (ht : P.underlying t = some (.slice e)) (hk : leavesOf P 10000 e = some [.i .i64, .i .i64]) (hv : Value.okWide P w r b0 t v) (h : DataW.Trod enc P w base spare held t v d p) :
    ∃ l, RdP (absM w) v l ∧ l.length ≤ 9223372036854775807 := by
  obtain ⟨L, a, c, rfl, hc, hL, hn, hr⟩ := open_rows ht hk (by decide) hv h
  obtain ⟨l, h1, h2⟩ := prs_of hL
  exact ⟨l, ⟨a, c, by rw [h1], h2 ▸ hr⟩, by omega⟩
end
end Go.Fw
