import Derived.Test.YtfihhmbjpmnopaaGreatDoorFxA
import Derived.RowKit3
import Derived.Below
import Derived.WideKeyArgs
import Derived.Deep.Matrix
import Derived.OpenShut
import Derived.ChangeSame
import Derived.Test.YtfihhmbjpmnopaaGreatDoorFv
import Derived.Deep.Slices
set_option linter.unusedVariables false
set_option linter.unusedSimpArgs false
/-! From a contract over abstract memory to the call in the model's words. -/
namespace Go.Fw
open Go.RowKit
theorem below_of {w w' : World} (hs : Side w w') (hf : Fr (absM w) (absM w') []) : Below w.heap.size w w' :=
  ⟨hs.os, hs.tape, hs.out, hs.size, fun i hi => hf i (by
    show w.heap[i]? ≠ none
    rw [Array.getElem?_eq_getElem hi]; exact Option.some_ne_none _) (by simp)⟩
theorem calls_of {P : Program} {f : Nat} {args : List Value} {w : World} {v : Value} (h : MC P f args (absM w) fun r m' => r = v ∧ Fr (absM w) m' []) :
    Calls P f args.toArray w fun e w' => e = .returned v ∧ Below w.heap.size w w' :=
  (h w rfl).mono fun e w' ⟨r, he, hs, hr, hf⟩ => ⟨by rw [he, hr], below_of hs hf⟩
end Go.Fw
/-! A law's arguments: read again behind a call that changed nothing. -/
namespace Go.Fw
open Go.RowKit Go.ChangeShapes Go.WideShapes
theorem sameAt_of {w w' : World} (h : Below w.heap.size w w') {p : MemPlace} (hp : p.block < w.heap.size) : w.sameAt w' p := by
  cases p with
  | cell b o => exact World.cell?_of_block (w := w) (h.block b hp)
  | map b => exact h.block b hp
theorem trodAll_stays {H : Type} {enc : TypeId × Value → H} {P : Program} {base : Nat} (hl : laidOutB P = true) {W W' : World} {sp' : Nat → Bool} : ∀ {ts : List TypeId} {vs : List Value} {ds : List (DataW H)} {ps : List MemPlace},
    (∀ t ∈ ts, P.readableRec t = true ∧ t < P.types.size) → DataW.TrodAll enc P W base (fun _ => true) true ts vs ds ps → (∀ p ∈ ps, W.sameAt W' p) → (∀ p ∈ ps, sp' p.block = true) → DataW.TrodAll enc P W' base sp' true ts vs ds ps
  | [], [], [], _, _, h, _, _ => h
  | _ :: _, _ :: _, _ :: _, _, hT, ⟨p, q, h1, h2, e⟩, hs, hp => ⟨p, q,
      WideElems.Trod_stays hl (hT _ (List.mem_cons.2 (Or.inl rfl))).1 (hT _ (List.mem_cons.2 (Or.inl rfl))).2 h1 (fun x hx => hs x (by rw [e]; exact List.mem_append_left _ hx)) (fun x hx => hp x (by rw [e]; exact List.mem_append_left _ hx)),
      trodAll_stays hl (fun t ht => hT t (List.mem_cons.2 (Or.inr ht))) h2 (fun x hx => hs x (by rw [e]; exact List.mem_append_right _ hx)) (fun x hx => hp x (by rw [e]; exact List.mem_append_right _ hx)), e⟩
/-- the end of a law that hands back one value and has left all that was there: its arguments are read again as they were -/
theorem law_end {H : Type} {enc : TypeId × Value → H} {P : Program} {f : Func} {s : ChangeSpec} {apart fresh handsOn again : Bool} {W W' : World} {args : Array Value} {v : Value} {ds gs : List (DataW H)} {ps : List MemPlace}
    (hW : DataW.Whole enc P f.params.toList s.vars apart W args.toList ds gs (ps ++ [])) (hb : Below W.heap.size W W')
    (hres : ∀ (b : Nat) (sp : Nat → Bool) (hd : Bool), DataW.TrodAll enc P W' b sp hd f.resultTypes.toList (v.resultList f.resultTypes.size) (s.fn H (ds ++ gs)).results [])
    (hargs : ∀ sp : Nat → Bool, (∀ p ∈ ps ++ [], sp p.block = true) → DataW.TrodAll enc P W' 0 sp true f.params.toList args.toList (s.fn H (ds ++ gs)).args ps)
    (hvars : ∀ sp : Nat → Bool, DataW.TrodVars enc P W' sp s.vars (s.fn H (ds ++ gs)).vars [])
    (hok : ∀ (j : Nat) (t : TypeId) (r : Value), f.resultTypes[j]? = some t → (v.resultList f.resultTypes.size)[j]? = some r → Value.okWide P W' .any 0 t r) :
    s.post enc P f apart fresh handsOn again W args v W' := by
  have lt : ∀ p ∈ ps ++ [], p.block < W.heap.size := hW.lt
  have ha := hargs (fun b => decide (b < W.heap.size)) (fun p hp => decide_eq_true (lt p hp))
  have hkept : W.keptBut W' (fun p => p ∈ ps ++ [] ∧ (p ∈ ([] : List MemPlace) ∨ p ∈ ps ∨ p ∈ ([] : List MemPlace))) :=
    World.keptBut_mono (fun p hp => ⟨hp, .inr (List.mem_append.1 hp)⟩) (hb.frame (· ∈ ps ++ []))
  refine ⟨ds, gs, ps ++ [], [], ps, [], hW, hres _ _ _, ha, hvars _, hkept, fun _ => ⟨hok, ?_⟩⟩
  obtain ⟨_, _, _, _, _, hz, hn⟩ := hW
  have hfree := hargs (fun _ => true) (fun _ _ => rfl)
  refine ⟨_, _, ([] ++ ps) ++ [], ⟨[] ++ ps, [], trodAll_append hfree (hres _ _ _), hvars _, rfl, ?_, ?_⟩, ?_⟩
  · intro b off hp
    rw [List.nil_append] at hp
    rw [hb.frozen (lt _ hp)]
    exact hz b off hp
  · intro h; have := hn h; simpa using this
  · intro p hp _; simpa using hp
end Go.Fw
/-! Arguments opened: flat values (numbers, bools, strings, structs and arrays of them), and slices of flat values. -/
namespace Go.Fw
open Go.RowKit Go.ChangeShapes Go.WideShapes
def LeafV : LK → Value → Prop
  | .b, v => ∃ b, v = .bool b
  | .i k, v => ∃ n, v = .int k n ∧ (Lit.int k n).wf = true
  | .s, v => ∃ s : ByteArray, v = .string s ∧ s.size ≤ maxLen
def Leaves : List LK → List Value → Prop
  | [], [] => True
  | k :: ks, v :: vs => LeafV k v ∧ Leaves ks vs
  | _, _ => False
theorem Leaves.length : ∀ {ks : List LK} {vs : List Value}, Leaves ks vs → vs.length = ks.length
  | [], [], _ => rfl
  | _ :: ks, _ :: vs, h => by simp [Leaves.length h.2]
  | [], _ :: _, h => h.elim
  | _ :: _, [], h => h.elim
theorem Leaves.append : ∀ {k1 k2 : List LK} {l1 l2 : List Value}, Leaves k1 l1 → Leaves k2 l2 → Leaves (k1 ++ k2) (l1 ++ l2)
  | [], _, [], _, _, h => h
  | _ :: _, _, _ :: _, _, h, g => ⟨h.1, Leaves.append h.2 g⟩
  | [], _, _ :: _, _, h, _ => h.elim
  | _ :: _, _, [], _, h, _ => h.elim
section
variable {H : Type} {enc : TypeId × Value → H} {P : Program} {w : World} {base : Nat} {spare : Nat → Bool} {held : Bool}
theorem cellsOf_leaves {d : Nat} {t : TypeId} {ks : List LK} (h : leavesOf P d t = some ks) : P.cellsOf t = ks.length := by
  obtain ⟨i, hi, hs⟩ := leavesOf_size h
  simp [Program.cellsOf, hi, hs]
theorem leaves_trod : ∀ (d : Nat) (t : TypeId) (ks : List LK) (fuel : Nat) (cs : List Value) (x : DataW H × List MemPlace), leavesOf P d t = some ks → DataW.trod enc P w base spare held fuel t cs = some x → Leaves ks cs
  | 0, _, _, _, _, _, h, _ => by cases h
  | d + 1, t, ks, fuel, cs, x, h, ht => by
    simp only [leavesOf] at h
    split at h
    · rename_i hu
      obtain ⟨rfl, _⟩ := sized_inv h
      obtain ⟨b, rfl, _⟩ := DataW.trod_bool hu ht
      exact ⟨⟨b, rfl⟩, trivial⟩
    · rename_i k hu
      obtain ⟨rfl, _⟩ := sized_inv h
      obtain ⟨n, rfl, _, hw⟩ := DataW.trod_int hu ht
      exact ⟨⟨n, rfl, hw⟩, trivial⟩
    · rename_i hu
      obtain ⟨rfl, _⟩ := sized_inv h
      obtain ⟨s, rfl, _, hs⟩ := DataW.trod_string hu ht
      exact ⟨⟨s, rfl, hs⟩, trivial⟩
    · rename_i fs hu
      split at h
      · cases h
      obtain ⟨l, hl, h⟩ := Option.bind_eq_some_iff.1 h
      obtain ⟨rfl, i, hi, hsz⟩ := sized_inv h
      obtain ⟨xs, n, _, _, hlen, hxs, hf⟩ := DataW.trod_struct hu ht
      have hcl : P.cellsOf t = ks.length := by simp [Program.cellsOf, hi, hsz]
      rw [hcl] at hlen
      have go : ∀ (r : List Field) (j off : Nat) (l : List LK), (∀ i f, r[i]? = some f → fs[j + i]? = some f) → fieldsLeaves (leavesOf P d) r off = some l → off + l.length ≤ cs.length → Leaves l ((cs.drop off).take l.length) := by
        intro r
        induction r with
        | nil => intro j off l _ hl _; simp only [fieldsLeaves, Option.some.injEq] at hl; subst hl; simp [Leaves]
        | cons f r ih =>
          intro j off l hin hl hle
          simp only [fieldsLeaves] at hl
          split at hl
          case isFalse => cases hl
          rename_i hoff
          obtain ⟨l1, h1, hl⟩ := Option.bind_eq_some_iff.1 hl
          obtain ⟨l2, h2, rfl⟩ := Option.map_eq_some_iff.1 hl
          rw [List.length_append] at hle
          have hfj := hin 0 f rfl
          rw [Nat.add_zero] at hfj
          have hj := (Array.getElem?_eq_some_iff.1 hfj).1
          have h3 := hf j f hfj
          rw [List.getElem?_eq_getElem (by omega)] at h3
          rw [hoff.2, cellsOf_leaves h1] at h3
          have a1 := leaves_trod d f.type l1 n _ _ h1 h3
          have a2 := ih (j + 1) (off + l1.length) l2 (fun i f hi => by rw [Nat.add_assoc, Nat.add_comm 1]; exact hin (i + 1) f (by simpa using hi)) h2 (by omega)
          have := a1.append a2
          rw [List.length_append, List.take_add, List.drop_drop]
          exact this
      have := go fs.toList 0 0 ks (fun i f hi => by simpa using hi) hl (by omega)
      rw [List.drop_zero, List.take_of_length_le (by omega)] at this
      exact this
    · rename_i n e hu
      obtain ⟨l, hl, h⟩ := Option.bind_eq_some_iff.1 h
      obtain ⟨rfl, i, hi, hsz⟩ := sized_inv h
      obtain ⟨xs, m, _, _, hlen, hxs, hf⟩ := DataW.trod_array hu ht
      have hcl : P.cellsOf t = n * l.length := by simp [Program.cellsOf, hi, hsz]
      rw [hcl] at hlen
      have hce := cellsOf_leaves hl
      rw [hce] at hf
      have go : ∀ (k j : Nat), j + k ≤ n → Leaves (List.replicate k l).flatten ((cs.drop (j * l.length)).take (k * l.length)) := by
        intro k
        induction k with
        | zero => intro j _; simp [Leaves]
        | succ k ih =>
          intro j hj
          have h3 := hf j (by omega)
          rw [List.getElem?_eq_getElem (by omega)] at h3
          have a1 := leaves_trod d e l m _ _ hl h3
          have a2 := ih (j + 1) (by omega)
          have := a1.append a2
          rw [List.replicate_succ, List.flatten_cons, Nat.add_mul, Nat.one_mul, Nat.add_comm (k * l.length), List.take_add, List.drop_drop]
          rw [Nat.add_mul, Nat.one_mul] at this
          exact this
      have := go n 0 (by omega)
      rw [Nat.zero_mul, List.drop_zero, List.take_of_length_le (by omega)] at this
      exact this
    · cases h
end
end Go.Fw
/-! Arguments as the program's values. -/
namespace Go.Fw
open Go.RowKit Go.ChangeShapes Go.WideShapes Go
def R64 (n : Int) : Prop := -9223372036854775808 ≤ n ∧ n ≤ 9223372036854775807
theorem r64_of {n : Int} (h : (Lit.int .i64 n).wf = true) : R64 n := by
  simp [Lit.wf, IntKind.min, IntKind.max, IntKind.bits, IntKind.signed] at h
  exact ⟨by omega, by omega⟩
theorem Leaves.split : ∀ {k1 k2 : List LK} {cs : List Value}, Leaves (k1 ++ k2) cs → ∃ a b, cs = a ++ b ∧ Leaves k1 a ∧ Leaves k2 b
  | [], k2, cs, h => ⟨[], cs, rfl, trivial, h⟩
  | k :: k1, k2, v :: cs, h => by
    obtain ⟨a, b, rfl, h1, h2⟩ := Leaves.split (k1 := k1) h.2
    exact ⟨v :: a, b, rfl, ⟨h.1, h1⟩, h2⟩
/-- leaves of this form are the cells of one of these -/
abbrev Dec {α : Type} (ks : List LK) (enc : α → List Value) (ok : α → Prop) : Prop := ∀ cs, Leaves ks cs → ∃ x, cs = enc x ∧ ok x
theorem dec_int : Dec [.i .i64] (fun n : Int => [.int .i64 n]) R64 := fun cs h => by
  rcases cs with _ | ⟨v, _ | ⟨_, _⟩⟩
  · exact h.elim
  · obtain ⟨⟨a, rfl, ha⟩, _⟩ := h; exact ⟨a, rfl, r64_of ha⟩
  · exact h.2.elim
theorem dec_str : Dec [.s] (fun s : ByteArray => [.string s]) (fun s => s.size ≤ maxLen) := fun cs h => by
  rcases cs with _ | ⟨v, _ | ⟨_, _⟩⟩
  · exact h.elim
  · obtain ⟨⟨a, rfl, ha⟩, _⟩ := h; exact ⟨a, rfl, ha⟩
  · exact h.2.elim
theorem Dec.seq {α β γ : Type} {k1 k2 : List LK} {e1 : α → List Value} {e2 : β → List Value} {o1 : α → Prop} {o2 : β → Prop} (h1 : Dec k1 e1 o1) (h2 : Dec k2 e2 o2) (f : α → β → γ) {e : γ → List Value} {o : γ → Prop}
    (he : ∀ a b, e1 a ++ e2 b = e (f a b)) (ho : ∀ a b, o1 a → o2 b → o (f a b)) : Dec (k1 ++ k2) e o := fun cs h => by
  obtain ⟨a, b, rfl, ha, hb⟩ := h.split
  obtain ⟨x, rfl, hx⟩ := h1 a ha
  obtain ⟨y, rfl, hy⟩ := h2 b hb
  exact ⟨f x y, he x y, ho x y hx hy⟩
def ok2 (p : Int × Int) : Prop := R64 p.1 ∧ R64 p.2
theorem dec_pair : Dec [.i .i64, .i .i64] pc ok2 := Dec.seq dec_int dec_int (fun a b => (a, b)) (fun _ _ => rfl) fun _ _ h1 h2 => ⟨h1, h2⟩
def okD (d : Dp) : Prop := ∀ i, R64 (d i)
def okC (c : Cmd) : Prop := R64 c.kind ∧ R64 c.client ∧ R64 c.seq ∧ c.key.size ≤ maxLen ∧ c.fin.size ≤ maxLen ∧ c.old.size ≤ maxLen ∧ c.val.size ≤ maxLen
theorem dec_cmd : Dec [.i .i64, .i .i64, .i .i64, .s, .s, .s, .s] Cmd.cs okC :=
  Dec.seq (Dec.seq dec_int dec_pair (e := fun p : Int × Int × Int => [.int .i64 p.1, .int .i64 p.2.1, .int .i64 p.2.2]) (o := fun p => R64 p.1 ∧ R64 p.2.1 ∧ R64 p.2.2) (fun a b => (a, b.1, b.2)) (fun _ _ => rfl) fun _ _ h1 h2 => ⟨h1, h2⟩)
    (Dec.seq (Dec.seq dec_str dec_str (e := fun p : ByteArray × ByteArray => [.string p.1, .string p.2]) (o := fun p => p.1.size ≤ maxLen ∧ p.2.size ≤ maxLen) (fun a b => (a, b)) (fun _ _ => rfl) fun _ _ h1 h2 => ⟨h1, h2⟩)
      (Dec.seq dec_str dec_str (e := fun p : ByteArray × ByteArray => [.string p.1, .string p.2]) (o := fun p => p.1.size ≤ maxLen ∧ p.2.size ≤ maxLen) (fun a b => (a, b)) (fun _ _ => rfl) fun _ _ h1 h2 => ⟨h1, h2⟩)
      (e := fun p : (ByteArray × ByteArray) × ByteArray × ByteArray => [.string p.1.1, .string p.1.2, .string p.2.1, .string p.2.2]) (o := fun p => p.1.1.size ≤ maxLen ∧ p.1.2.size ≤ maxLen ∧ p.2.1.size ≤ maxLen ∧ p.2.2.size ≤ maxLen) (fun a b => (a, b)) (fun _ _ => rfl) fun _ _ h1 h2 => ⟨h1.1, h1.2, h2⟩)
    (fun a b => ⟨a.1, a.2.1, a.2.2, b.1.1, b.1.2, b.2.1, b.2.2⟩) (fun _ _ => rfl) fun _ _ h1 h2 => ⟨h1.1, h1.2.1, h1.2.2, h2⟩
def okA (a : Att) : Prop := R64 a.seq ∧ okD a.deps
structure okCel (c : Cel) : Prop where
  st : R64 c.st
  pr : ok2 c.pr
  vo : ok2 c.vo
  cmd : okC c.cmd
  att : okA c.att
section
variable {H : Type} {enc : TypeId × Value → H} {P : Program} {w : World} {base : Nat} {spare : Nat → Bool} {held : Bool}
end
end Go.Fw
