import Derived.Test.YtpjecpkkcabnjaaGreatDoorFxA
import Derived.RowKit3
import Derived.Below
import Derived.WideKeyArgs
import Derived.Deep.Matrix
import Derived.OpenShut
import Derived.ChangeSame
import Derived.Test.YtpjecpkkcabnjaaGreatDoorFv
import Derived.Deep.Slices
set_option linter.unusedVariables false
set_option linter.unusedSimpArgs false
/-! From a contract over abstract memory to the call in the model's words. -/
namespace Go.Fw
open Go.RowKit
theorem below_of {w w' : World} (hs : Side w w') (hf : Fr (absM w) (absM w') []) : Below w.heap.size w w' :=
  ⟨hs.os, hs.tape, hs.out, hs.size, fun i hi => hf i (by
    show w.heap[i]? ≠ none
    rw [Array.getElem?_eq_getElem hi]; exact Option.some_ne_none _) (by simp)⟩
theorem calls_of {P : Program} {f : Nat} {args : List Value} {w : World} {v : Value} (h : MC P f args (absM w) fun r m' => r = v ∧ Fr (absM w) m' []) :
    Calls P f args.toArray w fun e w' => e = .returned v ∧ Below w.heap.size w w' :=
  (h w rfl).mono fun e w' ⟨r, he, hs, hr, hf⟩ => ⟨by rw [he, hr], below_of hs hf⟩
end Go.Fw
/-! A law's arguments: read again behind a call that changed nothing. -/
namespace Go.Fw
open Go.RowKit Go.ChangeShapes Go.WideShapes
theorem sameAt_of {w w' : World} (h : Below w.heap.size w w') {p : MemPlace} (hp : p.block < w.heap.size) : w.sameAt w' p := by
  cases p with
  | cell b o => exact World.cell?_of_block (w := w) (h.block b hp)
  | map b => exact h.block b hp
theorem trodAll_stays {H : Type} {enc : TypeId × Value → H} {P : Program} {base : Nat} (hl : laidOutB P = true) {W W' : World} {sp' : Nat → Bool} : ∀ {ts : List TypeId} {vs : List Value} {ds : List (DataW H)} {ps : List MemPlace},
    (∀ t ∈ ts, P.readableRec t = true ∧ t < P.types.size) → DataW.TrodAll enc P W base (fun _ => true) true ts vs ds ps → (∀ p ∈ ps, W.sameAt W' p) → (∀ p ∈ ps, sp' p.block = true) → DataW.TrodAll enc P W' base sp' true ts vs ds ps
  | [], [], [], _, _, h, _, _ => h
  | _ :: _, _ :: _, _ :: _, _, hT, ⟨p, q, h1, h2, e⟩, hs, hp => ⟨p, q,
      WideElems.Trod_stays hl (hT _ (List.mem_cons.2 (Or.inl rfl))).1 (hT _ (List.mem_cons.2 (Or.inl rfl))).2 h1 (fun x hx => hs x (by rw [e]; exact List.mem_append_left _ hx)) (fun x hx => hp x (by rw [e]; exact List.mem_append_left _ hx)),
      trodAll_stays hl (fun t ht => hT t (List.mem_cons.2 (Or.inr ht))) h2 (fun x hx => hs x (by rw [e]; exact List.mem_append_right _ hx)) (fun x hx => hp x (by rw [e]; exact List.mem_append_right _ hx)), e⟩
/-- the end of a law that hands back one value and has left all that was there: its arguments are read again as they were -/
theorem law_end {H : Type} {enc : TypeId × Value → H} {P : Program} {f : Func} {s : ChangeSpec} {apart fresh handsOn again : Bool} {W W' : World} {args : Array Value} {v : Value} {ds gs : List (DataW H)} {ps : List MemPlace}
    (hW : DataW.Whole enc P f.params.toList s.vars apart W args.toList ds gs (ps ++ [])) (hb : Below W.heap.size W W')
    (hres : ∀ (b : Nat) (sp : Nat → Bool) (hd : Bool), DataW.TrodAll enc P W' b sp hd f.resultTypes.toList (v.resultList f.resultTypes.size) (s.fn H (ds ++ gs)).results [])
    (hargs : ∀ sp : Nat → Bool, (∀ p ∈ ps ++ [], sp p.block = true) → DataW.TrodAll enc P W' 0 sp true f.params.toList args.toList (s.fn H (ds ++ gs)).args ps)
    (hvars : ∀ sp : Nat → Bool, DataW.TrodVars enc P W' sp s.vars (s.fn H (ds ++ gs)).vars [])
    (hok : ∀ (j : Nat) (t : TypeId) (r : Value), f.resultTypes[j]? = some t → (v.resultList f.resultTypes.size)[j]? = some r → Value.okWide P W' .any 0 t r) :
    s.post enc P f apart fresh handsOn again W args v W' := by
  have lt : ∀ p ∈ ps ++ [], p.block < W.heap.size := hW.lt
  have ha := hargs (fun b => decide (b < W.heap.size)) (fun p hp => decide_eq_true (lt p hp))
  have hkept : W.keptBut W' (fun p => p ∈ ps ++ [] ∧ (p ∈ ([] : List MemPlace) ∨ p ∈ ps ∨ p ∈ ([] : List MemPlace))) :=
    World.keptBut_mono (fun p hp => ⟨hp, .inr (List.mem_append.1 hp)⟩) (hb.frame (· ∈ ps ++ []))
  refine ⟨ds, gs, ps ++ [], [], ps, [], hW, hres _ _ _, ha, hvars _, hkept, fun _ => ⟨hok, ?_⟩⟩
  obtain ⟨_, _, _, _, _, hz, hn⟩ := hW
  have hfree := hargs (fun _ => true) (fun _ _ => rfl)
  refine ⟨_, _, ([] ++ ps) ++ [], ⟨[] ++ ps, [], trodAll_append hfree (hres _ _ _), hvars _, rfl, ?_, ?_⟩, ?_⟩
  · intro b off hp
    rw [List.nil_append] at hp
    rw [hb.frozen (lt _ hp)]
    exact hz b off hp
  · intro h; have := hn h; simpa using this
  · intro p hp _; simpa using hp
end Go.Fw
/-! Arguments opened: flat values (numbers, bools, strings, structs and arrays of them), and slices of flat values. -/
namespace Go.Fw
open Go.RowKit Go.ChangeShapes Go.WideShapes
def LeafV : LK → Value → Prop
  | .b, v => ∃ b, v = .bool b
  | .i k, v => ∃ n, v = .int k n ∧ (Lit.int k n).wf = true
  | .s, v => ∃ s : ByteArray, v = .string s ∧ s.size ≤ maxLen
def Leaves : List LK → List Value → Prop
  | [], [] => True
  | k :: ks, v :: vs => LeafV k v ∧ Leaves ks vs
  | _, _ => False
theorem Leaves.length : ∀ {ks : List LK} {vs : List Value}, Leaves ks vs → vs.length = ks.length
  | [], [], _ => rfl
  | _ :: ks, _ :: vs, h => by simp [Leaves.length h.2]
  | [], _ :: _, h => h.elim
  | _ :: _, [], h => h.elim
theorem Leaves.append : ∀ {k1 k2 : List LK} {l1 l2 : List Value}, Leaves k1 l1 → Leaves k2 l2 → Leaves (k1 ++ k2) (l1 ++ l2)
  | [], _, [], _, _, h => h
  | _ :: _, _, _ :: _, _, h, g => ⟨h.1, Leaves.append h.2 g⟩
  | [], _, _ :: _, _, h, _ => h.elim
  | _ :: _, _, [], _, h, _ => h.elim
section
variable {H : Type} {enc : TypeId × Value → H} {P : Program} {w : World} {base : Nat} {spare : Nat → Bool} {held : Bool}
end
end Go.Fw
/-! Arguments as the program's values. -/
namespace Go.Fw
open Go.RowKit Go.ChangeShapes Go.WideShapes Go
def R64 (n : Int) : Prop := -9223372036854775808 ≤ n ∧ n ≤ 9223372036854775807
theorem r64_of {n : Int} (h : (Lit.int .i64 n).wf = true) : R64 n := by
  simp [Lit.wf, IntKind.min, IntKind.max, IntKind.bits, IntKind.signed] at h
  exact ⟨by omega, by omega⟩
theorem Leaves.split : ∀ {k1 k2 : List LK} {cs : List Value}, Leaves (k1 ++ k2) cs → ∃ a b, cs = a ++ b ∧ Leaves k1 a ∧ Leaves k2 b
  | [], k2, cs, h => ⟨[], cs, rfl, trivial, h⟩
  | k :: k1, k2, v :: cs, h => by
    obtain ⟨a, b, rfl, h1, h2⟩ := Leaves.split (k1 := k1) h.2
    exact ⟨v :: a, b, rfl, ⟨h.1, h1⟩, h2⟩
/-- leaves of this form are the cells of one of these -/
abbrev Dec {α : Type} (ks : List LK) (enc : α → List Value) (ok : α → Prop) : Prop := ∀ cs, Leaves ks cs → ∃ x, cs = enc x ∧ ok x
theorem Dec.seq {α β γ : Type} {k1 k2 : List LK} {e1 : α → List Value} {e2 : β → List Value} {o1 : α → Prop} {o2 : β → Prop} (h1 : Dec k1 e1 o1) (h2 : Dec k2 e2 o2) (f : α → β → γ) {e : γ → List Value} {o : γ → Prop}
    (he : ∀ a b, e1 a ++ e2 b = e (f a b)) (ho : ∀ a b, o1 a → o2 b → o (f a b)) : Dec (k1 ++ k2) e o := fun cs h => by
  obtain ⟨a, b, rfl, ha, hb⟩ := h.split
  obtain ⟨x, rfl, hx⟩ := h1 a ha
  obtain ⟨y, rfl, hy⟩ := h2 b hb
  exact ⟨f x y, he x y, ho x y hx hy⟩
def ok2 (p : Int × Int) : Prop := R64 p.1 ∧ R64 p.2
def okD (d : Dp) : Prop := ∀ i, R64 (d i)
def okC (c : Cmd) : Prop := R64 c.kind ∧ R64 c.client ∧ R64 c.seq ∧ c.key.size ≤ maxLen ∧ c.fin.size ≤ maxLen ∧ c.old.size ≤ maxLen ∧ c.val.size ≤ maxLen
def okA (a : Att) : Prop := R64 a.seq ∧ okD a.deps
structure okCel (c : Cel) : Prop where
  st : R64 c.st
  pr : ok2 c.pr
  vo : ok2 c.vo
  cmd : okC c.cmd
  att : okA c.att
section
variable {H : Type} {enc : TypeId × Value → H} {P : Program} {w : World} {base : Nat} {spare : Nat → Bool} {held : Bool}
end
end Go.Fw
