import Derived.Test.YtnpldldflbeogaaFwBridge
import Derived.WideKeyArgs
import Derived.Deep.Matrix
import Derived.OpenShut
/-! A law's arguments: read again behind a call that changed nothing; rows of numbers, opened. -/
namespace Go.Fw
open Go.RowKit Go.ChangeShapes

theorem calls_of2 {P : Program} {f : Nat} {args : List Value} {w : World} {v : Value} (h : MC P f args (absM w) fun r m' => r = v ∧ Fr (absM w) m' []) :
    Calls P f args.toArray w fun e w' => e = .returned v ∧ Grown w w' ∧ ∀ i, i < w.heap.size → w'.heap[i]? = w.heap[i]? :=
  (h w rfl).mono fun e w' ⟨r, he, hs, hr, hf⟩ => by
    have same : ∀ i, i < w.heap.size → w'.heap[i]? = w.heap[i]? := fun i hi => by
      have hne : absM w i ≠ none := by
        show w.heap[i]? ≠ none
        rw [Array.getElem?_eq_getElem hi]; exact Option.some_ne_none _
      exact hf i hne (by simp)
    refine ⟨by rw [he, hr], ⟨⟨hs.os, hs.out, fun i hi => ?_⟩, hs.frz, hs.size⟩, same⟩
    rw [same i hi]
    cases w.heap[i]? with
    | none => rfl
    | some o => cases o <;> first | rfl | exact ⟨rfl, rfl, rfl, fun _ _ => rfl⟩ | exact .inr ⟨rfl, rfl⟩

theorem sameAt_of {w w' : World} (h : ∀ i, i < w.heap.size → w'.heap[i]? = w.heap[i]?) {p : MemPlace} (hp : p.block < w.heap.size) : w.sameAt w' p := by
  cases p with
  | cell b o => exact World.cell?_of_block (w := w) (h b hp)
  | map b => exact h b hp

theorem trodAll_stays {H : Type} {enc : TypeId × Value → H} {P : Program} {base : Nat} (hl : laidOutB P = true) {W W' : World} {sp' : Nat → Bool} : ∀ {ts : List TypeId} {vs : List Value} {ds : List (DataW H)} {ps : List MemPlace},
    (∀ t ∈ ts, P.readableRec t = true ∧ t < P.types.size) → DataW.TrodAll enc P W base (fun _ => true) true ts vs ds ps → (∀ p ∈ ps, W.sameAt W' p) → (∀ p ∈ ps, sp' p.block = true) → DataW.TrodAll enc P W' base sp' true ts vs ds ps
  | [], [], [], _, _, h, _, _ => h
  | _ :: _, _ :: _, _ :: _, _, hT, ⟨p, q, h1, h2, e⟩, hs, hp => ⟨p, q,
      WideElems.Trod_stays hl (hT _ (List.mem_cons.2 (Or.inl rfl))).1 (hT _ (List.mem_cons.2 (Or.inl rfl))).2 h1 (fun x hx => hs x (by rw [e]; exact List.mem_append_left _ hx)) (fun x hx => hp x (by rw [e]; exact List.mem_append_left _ hx)),
      trodAll_stays hl (fun t ht => hT t (List.mem_cons.2 (Or.inr ht))) h2 (fun x hx => hs x (by rw [e]; exact List.mem_append_right _ hx)) (fun x hx => hp x (by rw [e]; exact List.mem_append_right _ hx)), e⟩
end Go.Fw
