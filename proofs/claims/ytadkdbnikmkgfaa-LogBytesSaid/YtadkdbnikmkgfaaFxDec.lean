import Derived.Test.YtadkdbnikmkgfaaFxArgs
import Derived.Test.YtadkdbnikmkgfaaFxBy
import Derived.Test.YtadkdbnikmkgfaaFxApi
/-! Arguments as the program's values. -/
set_option linter.unusedVariables false
namespace Go.Fw
open Go.RowKit Go.ChangeShapes Go.WideShapes Go
def R64 (n : Int) : Prop := -9223372036854775808 ≤ n ∧ n ≤ 9223372036854775807
theorem r64_of {n : Int} (h : (Lit.int .i64 n).wf = true) : R64 n := by
  simp [Lit.wf, IntKind.min, IntKind.max, IntKind.bits, IntKind.signed] at h
  exact ⟨by omega, by omega⟩
theorem Leaves.split : ∀ {k1 k2 : List LK} {cs : List Value}, Leaves (k1 ++ k2) cs → ∃ a b, cs = a ++ b ∧ Leaves k1 a ∧ Leaves k2 b
  | [], k2, cs, h => ⟨[], cs, rfl, trivial, h⟩
  | k :: k1, k2, v :: cs, h => by
    obtain ⟨a, b, rfl, h1, h2⟩ := Leaves.split (k1 := k1) h.2
    exact ⟨v :: a, b, rfl, ⟨h.1, h1⟩, h2⟩
/-- leaves of this form are the cells of one of these -/
abbrev Dec {α : Type} (ks : List LK) (enc : α → List Value) (ok : α → Prop) : Prop := ∀ cs, Leaves ks cs → ∃ x, cs = enc x ∧ ok x
theorem dec_int : Dec [.i .i64] (fun n : Int => [.int .i64 n]) R64 := fun cs h => by
  rcases cs with _ | ⟨v, _ | ⟨_, _⟩⟩
  · exact h.elim
  · obtain ⟨⟨a, rfl, ha⟩, _⟩ := h; exact ⟨a, rfl, r64_of ha⟩
  · exact h.2.elim
theorem dec_bool : Dec [.b] (fun n : Bool => [.bool n]) (fun _ => True) := fun cs h => by
  rcases cs with _ | ⟨v, _ | ⟨_, _⟩⟩
  · exact h.elim
  · obtain ⟨⟨a, rfl⟩, _⟩ := h; exact ⟨a, rfl, trivial⟩
  · exact h.2.elim
theorem dec_str : Dec [.s] (fun s : ByteArray => [.string s]) (fun s => s.size ≤ maxLen) := fun cs h => by
  rcases cs with _ | ⟨v, _ | ⟨_, _⟩⟩
  · exact h.elim
  · obtain ⟨⟨a, rfl, ha⟩, _⟩ := h; exact ⟨a, rfl, ha⟩
  · exact h.2.elim
theorem dec_byte : Dec [.i .u8] bc (fun _ => True) := fun cs h => by
  rcases cs with _ | ⟨v, _ | ⟨_, _⟩⟩
  · exact h.elim
  · obtain ⟨⟨a, rfl, ha⟩, _⟩ := h
    simp [Lit.wf, IntKind.min, IntKind.max, IntKind.bits, IntKind.signed] at ha
    refine ⟨UInt8.ofNat a.toNat, ?_, trivial⟩
    have : ((UInt8.ofNat a.toNat).toNat : Int) = a := by simp; omega
    simp only [bc, bv, this]
  · exact h.2.elim
theorem Dec.seq {α β γ : Type} {k1 k2 : List LK} {e1 : α → List Value} {e2 : β → List Value} {o1 : α → Prop} {o2 : β → Prop} (h1 : Dec k1 e1 o1) (h2 : Dec k2 e2 o2) (f : α → β → γ) {e : γ → List Value} {o : γ → Prop}
    (he : ∀ a b, e1 a ++ e2 b = e (f a b)) (ho : ∀ a b, o1 a → o2 b → o (f a b)) : Dec (k1 ++ k2) e o := fun cs h => by
  obtain ⟨a, b, rfl, ha, hb⟩ := h.split
  obtain ⟨x, rfl, hx⟩ := h1 a ha
  obtain ⟨y, rfl, hy⟩ := h2 b hb
  exact ⟨f x y, he x y, ho x y hx hy⟩
def ok2 (p : Int × Int) : Prop := R64 p.1 ∧ R64 p.2
theorem dec_pair : Dec [.i .i64, .i .i64] pc ok2 := Dec.seq dec_int dec_int (fun a b => (a, b)) (fun _ _ => rfl) fun _ _ h1 h2 => ⟨h1, h2⟩
def okD (d : Dp) : Prop := ∀ i, R64 (d i)
theorem dec_dp : Dec [.i .i64, .i .i64, .i .i64, .i .i64, .i .i64, .i .i64, .i .i64] dv okD := fun cs h => by
  have h3 : Dec [.i .i64, .i .i64, .i .i64] (fun p : Int × Int × Int => [.int .i64 p.1, .int .i64 p.2.1, .int .i64 p.2.2]) (fun p => R64 p.1 ∧ R64 p.2.1 ∧ R64 p.2.2) := Dec.seq dec_int dec_pair (fun a b => (a, b.1, b.2)) (fun _ _ => rfl) fun _ _ h1 h2 => ⟨h1, h2⟩
  obtain ⟨a, b, rfl, ha, hb⟩ := Leaves.split (k1 := [.i .i64, .i .i64, .i .i64]) (k2 := [.i .i64, .i .i64, .i .i64, .i .i64]) h
  obtain ⟨b, c, rfl, hb, hc⟩ := Leaves.split (k1 := [.i .i64, .i .i64, .i .i64]) (k2 := [.i .i64]) hb
  obtain ⟨x, rfl, hx⟩ := h3 a ha
  obtain ⟨y, rfl, hy⟩ := h3 b hb
  obtain ⟨z, rfl, hz⟩ := dec_int c hc
  refine ⟨fun i => match i with | 0 => x.1 | 1 => x.2.1 | 2 => x.2.2 | 3 => y.1 | 4 => y.2.1 | 5 => y.2.2 | 6 => z, rfl, fun i => ?_⟩
  match i with
  | 0 => exact hx.1 | 1 => exact hx.2.1 | 2 => exact hx.2.2 | 3 => exact hy.1 | 4 => exact hy.2.1 | 5 => exact hy.2.2 | 6 => exact hz
def okC (c : Cmd) : Prop := R64 c.kind ∧ R64 c.client ∧ R64 c.seq ∧ c.key.size ≤ maxLen ∧ c.fin.size ≤ maxLen ∧ c.old.size ≤ maxLen ∧ c.val.size ≤ maxLen
theorem dec_cmd : Dec [.i .i64, .i .i64, .i .i64, .s, .s, .s, .s] Cmd.cs okC :=
  Dec.seq (Dec.seq dec_int dec_pair (e := fun p : Int × Int × Int => [.int .i64 p.1, .int .i64 p.2.1, .int .i64 p.2.2]) (o := fun p => R64 p.1 ∧ R64 p.2.1 ∧ R64 p.2.2) (fun a b => (a, b.1, b.2)) (fun _ _ => rfl) fun _ _ h1 h2 => ⟨h1, h2⟩)
    (Dec.seq (Dec.seq dec_str dec_str (e := fun p : ByteArray × ByteArray => [.string p.1, .string p.2]) (o := fun p => p.1.size ≤ maxLen ∧ p.2.size ≤ maxLen) (fun a b => (a, b)) (fun _ _ => rfl) fun _ _ h1 h2 => ⟨h1, h2⟩)
      (Dec.seq dec_str dec_str (e := fun p : ByteArray × ByteArray => [.string p.1, .string p.2]) (o := fun p => p.1.size ≤ maxLen ∧ p.2.size ≤ maxLen) (fun a b => (a, b)) (fun _ _ => rfl) fun _ _ h1 h2 => ⟨h1, h2⟩)
      (e := fun p : (ByteArray × ByteArray) × ByteArray × ByteArray => [.string p.1.1, .string p.1.2, .string p.2.1, .string p.2.2]) (o := fun p => p.1.1.size ≤ maxLen ∧ p.1.2.size ≤ maxLen ∧ p.2.1.size ≤ maxLen ∧ p.2.2.size ≤ maxLen) (fun a b => (a, b)) (fun _ _ => rfl) fun _ _ h1 h2 => ⟨h1.1, h1.2, h2⟩)
    (fun a b => ⟨a.1, a.2.1, a.2.2, b.1.1, b.1.2, b.2.1, b.2.2⟩) (fun _ _ => rfl) fun _ _ h1 h2 => ⟨h1.1, h1.2.1, h1.2.2, h2⟩
def okA (a : Att) : Prop := R64 a.seq ∧ okD a.deps
theorem dec_att : Dec [.i .i64, .i .i64, .i .i64, .i .i64, .i .i64, .i .i64, .i .i64, .i .i64] Att.cs okA := Dec.seq dec_int dec_dp (fun a b => ⟨a, b⟩) (fun _ _ => rfl) fun _ _ h1 h2 => ⟨h1, h2⟩
structure okCel (c : Cel) : Prop where
  st : R64 c.st
  pr : ok2 c.pr
  vo : ok2 c.vo
  cmd : okC c.cmd
  att : okA c.att
abbrev celK : List LK := [.i .i64, .i .i64, .i .i64, .i .i64, .i .i64, .i .i64, .i .i64, .i .i64, .s, .s, .s, .s, .i .i64, .i .i64, .i .i64, .i .i64, .i .i64, .i .i64, .i .i64, .i .i64, .b]
theorem dec_cel : Dec celK Cel.cs okCel := fun cs h0 => by
  obtain ⟨ca, r1, rfl, ha, h1⟩ := Leaves.split (k1 := [.i .i64]) h0
  obtain ⟨cb, r2, rfl, hb, h2⟩ := Leaves.split (k1 := [.i .i64, .i .i64]) h1
  obtain ⟨cc, r3, rfl, hc, h3⟩ := Leaves.split (k1 := [.i .i64, .i .i64]) h2
  obtain ⟨cd, r4, rfl, hd, h4⟩ := Leaves.split (k1 := [.i .i64, .i .i64, .i .i64, .s, .s, .s, .s]) h3
  obtain ⟨ce, r5, rfl, he, h5⟩ := Leaves.split (k1 := [.i .i64, .i .i64, .i .i64, .i .i64, .i .i64, .i .i64, .i .i64, .i .i64]) h4
  obtain ⟨a, rfl, ka⟩ := dec_int ca ha
  obtain ⟨b, rfl, kb⟩ := dec_pair cb hb
  obtain ⟨c, rfl, kc⟩ := dec_pair cc hc
  obtain ⟨d, rfl, kd⟩ := dec_cmd cd hd
  obtain ⟨e, rfl, ke⟩ := dec_att ce he
  obtain ⟨f, rfl, kf⟩ := dec_bool r5 h5
  exact ⟨⟨a, b, c, d, e, f⟩, rfl, ka, kb, kc, kd, ke⟩
theorem dec_rows {α : Type} {ks : List LK} {enc : α → List Value} {ok : α → Prop} (hd : Dec ks enc ok) : ∀ {L : List (List Value)}, (∀ cs ∈ L, Leaves ks cs) → ∃ l : List α, l.length = L.length ∧ L.flatten = l.flatMap enc ∧ ∀ x ∈ l, ok x
  | [], _ => ⟨[], rfl, rfl, by simp⟩
  | cs :: L, h => by
    obtain ⟨a, rfl, ha⟩ := hd cs (h cs (List.mem_cons_self ..))
    obtain ⟨l, h1, h2, h3⟩ := dec_rows hd (L := L) fun c hc => h c (List.mem_cons_of_mem _ hc)
    exact ⟨a :: l, by simp [h1], by simp [h2], by
      intro x hx
      rcases List.mem_cons.1 hx with rfl | hx
      · exact ha
      · exact h3 x hx⟩
section
variable {H : Type} {enc : TypeId × Value → H} {P : Program} {w : World} {base : Nat} {spare : Nat → Bool} {held : Bool}
/-- a flat argument -/
theorem open_one {α : Type} {ks : List LK} {en : α → List Value} {ok : α → Prop} (hd : Dec ks en ok) {r : Reach} {b0 : Nat} {t : TypeId} {v : Value} {d : DataW H} {p : List MemPlace} (ha : aggT P t = true) (hk : leavesOf P 10000 t = some ks) (hv : Value.okWide P w r b0 t v) (h : DataW.Trod enc P w base spare held t v d p) :
    ∃ x, v = .agg (en x).toArray ∧ ok x := by
  obtain ⟨cs, rfl, hL⟩ := open_flat ha hk hv h
  obtain ⟨x, rfl, hx⟩ := hd cs hL
  exact ⟨x, rfl, hx⟩
/-- a slice -/
theorem open_many {α : Type} {ks : List LK} {en : α → List Value} {ok : α → Prop} (hd : Dec ks en ok) (hk0 : ∀ x, (en x).length = ks.length) {r : Reach} {b0 : Nat} {t e : TypeId} {v : Value} {d : DataW H} {p : List MemPlace} (ht : P.underlying t = some (.slice e)) (hk : leavesOf P 10000 e = some ks) (k0 : 0 < ks.length)
    (hv : Value.okWide P w r b0 t v) (h : DataW.Trod enc P w base spare held t v d p) : ∃ l, RdS ks.length en (absM w) v l ∧ (∀ x ∈ l, ok x) ∧ l.length ≤ 9223372036854775807 := by
  obtain ⟨L, a, c, rfl, hc, hL, hn, hr⟩ := open_rows ht hk k0 hv h
  obtain ⟨l, h1, h2, h3⟩ := dec_rows hd hL
  exact ⟨l, ⟨hk0, a, c, by rw [h1], by omega, h2 ▸ hr⟩, h3, by omega⟩
end
end Go.Fw
