import Derived.Test.YtfihhmbjpmnopaaGreatDoorCiE
import Derived.Test.YtfihhmbjpmnopaaGreatDoorFxB
import Derived.ChangeSlices
import Derived.Deep.Matrix
set_option linter.unusedVariables false
set_option linter.unusedSimpArgs false
/-! A script that came in. -/
namespace Go.Fw
open Go.RowKit Go.ChangeShapes Go.WideShapes
open Go.Proofs
theorem rd1_of {W : World} {a : Option Addr} {l : List Value} (h0 : a = none → l = []) (h : ∀ a', a = some a' → ∀ c (hc : c < l.length), W.cell? (a'.add c) = some l[c]) : Rd1 (absM W) a l := by
  cases a with
  | none => exact .inl (h0 rfl)
  | some a =>
    by_cases hl : l = []
    · exact .inl hl
    · obtain ⟨b, o, s⟩ := a
      have hpos : 0 < l.length := List.length_pos_iff.2 hl
      have hs : s = none := by simpa [Addr.add] using World.cell?_spot (h _ rfl 0 hpos)
      subst hs
      refine .inr ⟨b, o, rfl, fun i v hv => ?_⟩
      obtain ⟨hi, rfl⟩ := List.getElem?_eq_some_iff.1 hv
      have := h _ rfl i hi
      rw [add_mk, ← cell_abs, cell_mk] at this
      exact this
theorem trod_int1 {H : Type} {enc : TypeId × Value → H} {P : Program} {W : World} {base : Nat} {held : Bool} {spare : Nat → Bool} {fuel : Nat} {t : TypeId} {cs : List Value} {x : DataW H × List MemPlace} (ht : P.underlying t = some (.int .i64)) (hf : DataW.trod enc P W base spare held fuel t cs = some x) : ∃ n, cs = [.int .i64 n] ∧ R64 n := by
  obtain ⟨n, rfl, _, hw⟩ := DataW.trod_int ht hf
  exact ⟨n, rfl, r64_of hw⟩
/-- rows of any values, one by one -/
theorem open_rowsX {H : Type} {enc : TypeId × Value → H} {P : Program} {W : World} {base : Nat} {held : Bool} {α : Type} {k : Nat} {en : α → List Value} {ok : α → Prop} {r : Reach} {b0 : Nat} {t e : TypeId} {v : Value} {d : DataW H} {p : List MemPlace} (ht : P.underlying t = some (.slice e)) (hk : ∀ x, (en x).length = k) (ce : P.cellsOf e = k) (k0 : 0 < k) (hdum : Nonempty α)
    (hd : ∀ fuel cs x, DataW.trod enc P W base (fun _ => true) held fuel e cs = some x → ∃ a, cs = en a ∧ ok a)
    (hv : Value.okWide P W r b0 t v) (h : DataW.Trod enc P W base (fun _ => true) held t v d p) : ∃ l, RdS k en (absM W) v l ∧ (∀ x ∈ l, ok x) ∧ l.length ≤ 9223372036854775807 := by
  obtain ⟨fuel, hf⟩ := h
  obtain ⟨a0, n0, c0, rfl⟩ := okWide_slice ht hv
  have hcs : (Value.slice a0 n0 c0).cells.toList = [.slice a0 n0 c0] := rfl
  rw [hcs] at hf
  rcases Deep.open_slice ht hf with ⟨h1, _⟩ | ⟨a, len, cap, m, n, D, Pl, h1, _, hl, hm, hmm, _, hrows⟩
  · cases h1
    exact ⟨[], RdS.nil hk _, by simp, by simp⟩
  · cases h1
    have hmm' : n0 ≤ m := by rw [hmm]; split <;> omega
    unfold maxLen at hm
    rw [ce] at hrows
    have hex : ∀ i : Nat, ∃ x : α, i < n0 → ok x ∧ ∀ j, j < k → W.cell? (a.add (i * k + j)) = (en x)[j]? := by
      intro i
      by_cases hi : i < n0
      · obtain ⟨cs, h2, h3⟩ := hrows i (by omega)
        obtain ⟨x, rfl, hx⟩ := hd _ _ _ h3
        refine ⟨x, fun _ => ⟨hx, fun j hj => ?_⟩⟩
        rw [← Deep.add_add]
        exact (World.cells?_some h2).2.2 j hj
      · exact hdum.elim fun x => ⟨x, fun h => absurd h hi⟩
    obtain ⟨C, hC⟩ := Classical.axiomOfChoice hex
    refine ⟨(List.range n0).map C, ⟨hk, some a, c0, by simp, by simpa using hl, ?_⟩, fun x hx => ?_, by simp; omega⟩
    · refine rd1_of (fun h => by cases h) fun a' ha c hc => ?_
      cases ha
      have hlen : (((List.range n0).map C).flatMap en).length = n0 * k := by rw [fm_len hk]; simp
      rw [hlen] at hc
      have hdiv : c / k < n0 := Nat.div_lt_of_lt_mul (by rw [Nat.mul_comm]; exact hc)
      have hmod : c % k < k := Nat.mod_lt _ k0
      have hcc : c / k * k + c % k = c := by rw [Nat.mul_comm]; exact Nat.div_add_mod c k
      have h1 := fm_get hk ((List.range n0).map C) (c / k) (c % k) (by simpa using hdiv) hmod
      rw [hcc] at h1
      have h2 := (hC (c / k) hdiv).2 (c % k) hmod
      rw [hcc] at h2
      rw [h2, ← List.getElem?_eq_getElem, h1]
      simp
    · obtain ⟨i, hi, rfl⟩ := List.mem_map.1 hx
      exact (hC i (List.mem_range.1 hi)).1
theorem i64_of {n : Int} (h : R64 n) : I64 n := h
theorem trod_step {H : Type} {enc : TypeId × Value → H} {W : World} {base : Nat} {held : Bool} {fuel : Nat} {cs : List Value} {x : DataW H × List MemPlace} (hf : DataW.trod enc Tryz.prog W base (fun _ => true) held fuel 32 cs = some x) : ∃ s : Sp, cs = s.cs ∧ SpOk s := by
  obtain ⟨xs, n, _, hxe, hlen, hxs, hg⟩ := DataW.trod_struct Tryz.underlying32 hf
  have hlen : cs.length = 12 := hlen.trans (by kernel_rfl)
  have hxs : xs.length = 6 := hxs
  obtain ⟨c0, c1, c2, c3, c4, c5, c6, c7, c8, c9, c10, c11, rfl⟩ : ∃ c0 c1 c2 c3 c4 c5 c6 c7 c8 c9 c10 c11, cs = [c0, c1, c2, c3, c4, c5, c6, c7, c8, c9, c10, c11] := by
    rcases cs with _ | ⟨c0, _ | ⟨c1, _ | ⟨c2, _ | ⟨c3, _ | ⟨c4, _ | ⟨c5, _ | ⟨c6, _ | ⟨c7, _ | ⟨c8, _ | ⟨c9, _ | ⟨c10, _ | ⟨c11, _ | ⟨c12, r⟩⟩⟩⟩⟩⟩⟩⟩⟩⟩⟩⟩⟩ <;> simp at hlen
    exact ⟨_, _, _, _, _, _, _, _, _, _, _, _, rfl⟩
  obtain ⟨x0, x1, x2, x3, x4, x5, rfl⟩ : ∃ c0 c1 c2 c3 c4 c5, xs = [c0, c1, c2, c3, c4, c5] := by
    rcases xs with _ | ⟨c0, _ | ⟨c1, _ | ⟨c2, _ | ⟨c3, _ | ⟨c4, _ | ⟨c5, _ | ⟨c6, r⟩⟩⟩⟩⟩⟩⟩ <;> simp at hxs
    exact ⟨_, _, _, _, _, _, rfl⟩
  have g0 := hg 0 _ rfl
  have g1 := hg 1 _ rfl
  have g2 := hg 2 _ rfl
  have g3 := hg 3 _ rfl
  have g4 := hg 4 _ rfl
  have g5 := hg 5 _ rfl
  have e0 : Tryz.prog.cellsOf 3 = 1 := by kernel_rfl
  have e4 : Tryz.prog.cellsOf 30 = 7 := by kernel_rfl
  have e5 : Tryz.prog.cellsOf 27 = 1 := by kernel_rfl
  have g0 : DataW.trod enc Tryz.prog W base (fun _ => true) held n 3 (([c0, c1, c2, c3, c4, c5, c6, c7, c8, c9, c10, c11].drop 0).take (Tryz.prog.cellsOf 3)) = some x0 := g0
  have g1 : DataW.trod enc Tryz.prog W base (fun _ => true) held n 3 (([c0, c1, c2, c3, c4, c5, c6, c7, c8, c9, c10, c11].drop 1).take (Tryz.prog.cellsOf 3)) = some x1 := g1
  have g2 : DataW.trod enc Tryz.prog W base (fun _ => true) held n 3 (([c0, c1, c2, c3, c4, c5, c6, c7, c8, c9, c10, c11].drop 2).take (Tryz.prog.cellsOf 3)) = some x2 := g2
  have g3 : DataW.trod enc Tryz.prog W base (fun _ => true) held n 3 (([c0, c1, c2, c3, c4, c5, c6, c7, c8, c9, c10, c11].drop 3).take (Tryz.prog.cellsOf 3)) = some x3 := g3
  have g4 : DataW.trod enc Tryz.prog W base (fun _ => true) held n 30 (([c0, c1, c2, c3, c4, c5, c6, c7, c8, c9, c10, c11].drop 4).take (Tryz.prog.cellsOf 30)) = some x4 := g4
  have g5 : DataW.trod enc Tryz.prog W base (fun _ => true) held n 27 (([c0, c1, c2, c3, c4, c5, c6, c7, c8, c9, c10, c11].drop 11).take (Tryz.prog.cellsOf 27)) = some x5 := g5
  rw [e0] at g0 g1 g2 g3
  rw [e4] at g4
  rw [e5] at g5
  have g0 : DataW.trod enc Tryz.prog W base (fun _ => true) held n 3 [c0] = some x0 := g0
  have g1 : DataW.trod enc Tryz.prog W base (fun _ => true) held n 3 [c1] = some x1 := g1
  have g2 : DataW.trod enc Tryz.prog W base (fun _ => true) held n 3 [c2] = some x2 := g2
  have g3 : DataW.trod enc Tryz.prog W base (fun _ => true) held n 3 [c3] = some x3 := g3
  have g4 : DataW.trod enc Tryz.prog W base (fun _ => true) held n 30 [c4, c5, c6, c7, c8, c9, c10] = some x4 := g4
  have g5 : DataW.trod enc Tryz.prog W base (fun _ => true) held n 27 [c11] = some x5 := g5
  obtain ⟨k, ek, hk⟩ := trod_int1 Tryz.underlying3 g0
  obtain ⟨i, ei, hi⟩ := trod_int1 Tryz.underlying3 g1
  obtain ⟨j, ej, hj⟩ := trod_int1 Tryz.underlying3 g2
  obtain ⟨l, el, hl⟩ := trod_int1 Tryz.underlying3 g3
  have hL := leaves_trod 10000 30 [.i .i64, .i .i64, .i .i64, .s, .s, .s, .s] n _ _ (by kernel_rfl) g4
  obtain ⟨q, eq, hq⟩ := dec_cmd _ hL
  cases ek; cases ei; cases ej; cases el
  simp only [Cmd.cs, List.cons.injEq] at eq
  obtain ⟨rfl, rfl, rfl, rfl, rfl, rfl, rfl, _⟩ := eq
  have hs : ∃ a b c, c11 = .slice a b c := by
    rcases Deep.open_slice Tryz.underlying27 g5 with ⟨h1, _⟩ | ⟨a, len, cap, m, n', D, Pl, h1, _⟩
    · cases h1; exact ⟨_, _, _, rfl⟩
    · cases h1; exact ⟨_, _, _, rfl⟩
  obtain ⟨a, b, c, rfl⟩ := hs
  exact ⟨⟨k, i, j, l, q.kind, q.client, q.seq, q.key, q.fin, q.old, q.val, a, b, c⟩, rfl, ⟨i64_of hk, i64_of hi, i64_of hl⟩⟩
set_option maxRecDepth 100000 in
theorem open_script {H : Type} {enc : TypeId × Value → H} {W : World} {base : Nat} {held : Bool} {r : Reach} {b0 : Nat} {v : Value} {d : DataW H} {p : List MemPlace} (hv : Value.okWide Tryz.prog W r b0 22 v) (h : DataW.Trod enc Tryz.prog W base (fun _ => true) held 22 v d p) :
    ∃ (a : Option Addr) (c : Nat) (l : List Sp), v = .slice a l.length c ∧ RdS 12 Sp.cs (absM W) (.slice a l.length c) l ∧ (∀ s ∈ l, SpOk s) ∧ l.length ≤ 9223372036854775807 := by
  obtain ⟨l, h1, h2, h3⟩ := open_rowsX (α := Sp) (k := 12) (en := Sp.cs) (ok := SpOk) Tryz.underlying22 Sp.len (by kernel_rfl) (Nat.succ_pos 11) ⟨⟨0, 0, 0, 0, 0, 0, 0, .empty, .empty, .empty, .empty, none, 0, 0⟩⟩ (fun _ _ _ h => trod_step h) hv h
  obtain ⟨a, c, rfl⟩ := h1.form
  exact ⟨a, c, l, rfl, h1, h2, h3⟩
end Go.Fw
