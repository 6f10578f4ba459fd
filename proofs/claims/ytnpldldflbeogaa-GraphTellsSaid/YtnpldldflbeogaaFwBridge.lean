import Derived.Test.YtnpldldflbeogaaFwMem
import Derived.RowKit3
/-! From a contract over abstract memory to the call in the model's words. -/
namespace Go.Fw
open Go.RowKit
theorem calls_of {P : Program} {f : Nat} {args : List Value} {w : World} {v : Value} (h : MC P f args (absM w) fun r m' => r = v ∧ Fr (absM w) m' []) :
    Calls P f args.toArray w fun e w' => e = .returned v ∧ Grown w w' :=
  (h w rfl).mono fun e w' ⟨r, he, hs, hr, hf⟩ => ⟨by rw [he, hr], ⟨hs.os, hs.out, fun i hi => by
    have hne : absM w i ≠ none := by
      show w.heap[i]? ≠ none
      rw [Array.getElem?_eq_getElem hi]; exact Option.some_ne_none _
    have e : w'.heap[i]? = w.heap[i]? := hf i hne (by simp)
    rw [e]
    cases w.heap[i]? with
    | none => rfl
    | some o => cases o <;> first | rfl | exact ⟨rfl, rfl, rfl, fun _ _ => rfl⟩ | exact .inr ⟨rfl, rfl⟩⟩, hs.frz, hs.size⟩
end Go.Fw
