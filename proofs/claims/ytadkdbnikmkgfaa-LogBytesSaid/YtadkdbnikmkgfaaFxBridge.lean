import Derived.Test.YtadkdbnikmkgfaaFxMem
import Derived.RowKit3
import Derived.Below
/-! From a contract over abstract memory to the call in the model's words. -/
namespace Go.Fw
open Go.RowKit
theorem below_of {w w' : World} (hs : Side w w') (hf : Fr (absM w) (absM w') []) : Below w.heap.size w w' :=
  ⟨hs.os, hs.tape, hs.out, hs.size, fun i hi => hf i (by
    show w.heap[i]? ≠ none
    rw [Array.getElem?_eq_getElem hi]; exact Option.some_ne_none _) (by simp)⟩
theorem calls_of {P : Program} {f : Nat} {args : List Value} {w : World} {v : Value} (h : MC P f args (absM w) fun r m' => r = v ∧ Fr (absM w) m' []) :
    Calls P f args.toArray w fun e w' => e = .returned v ∧ Below w.heap.size w w' :=
  (h w rfl).mono fun e w' ⟨r, he, hs, hr, hf⟩ => ⟨by rw [he, hr], below_of hs hf⟩
end Go.Fw
