import Derived.Test.YtpjecpkkcabnjaaGreatDoorSwM
import Derived.Test.YtpjecpkkcabnjaaGreatDoorFxB
import Derived.Test.YtpjecpkkcabnjaaGreatDoorysR
import Derived.Test.YtpjecpkkcabnjaaGreatDoorRows
import Derived.ChangeSlices
import Derived.ChangeMaps5
import Derived.Deep.Matrix
import Derived.SizedLaws
import Derived.LaidLaws
import Derived.LaidSub
set_option linter.unusedVariables false
set_option linter.unusedSimpArgs false
/-! A step that came in; what is laid. -/
namespace Go.Fw
open Go.RowKit Go.ChangeShapes Go.WideShapes
open Go.Proofs Go.Proofs.YtpjecpkkcabnjaaGreatDoor Go.Sh
theorem rd1_of {W : World} {a : Option Addr} {l : List Value} (h0 : a = none → l = []) (h : ∀ a', a = some a' → ∀ c (hc : c < l.length), W.cell? (a'.add c) = some l[c]) : Rd1 (absM W) a l := by
  cases a with
  | none => exact .inl (h0 rfl)
  | some a =>
    by_cases hl : l = []
    · exact .inl hl
    · obtain ⟨b, o, s⟩ := a
      have hpos : 0 < l.length := List.length_pos_iff.2 hl
      have hs : s = none := by simpa [Addr.add] using World.cell?_spot (h _ rfl 0 hpos)
      subst hs
      refine .inr ⟨b, o, rfl, fun i v hv => ?_⟩
      obtain ⟨hi, rfl⟩ := List.getElem?_eq_some_iff.1 hv
      have := h _ rfl i hi
      rw [add_mk, ← cell_abs, cell_mk] at this
      exact this
theorem trod_int1 {H : Type} {enc : TypeId × Value → H} {P : Program} {W : World} {base : Nat} {held : Bool} {spare : Nat → Bool} {fuel : Nat} {t : TypeId} {cs : List Value} {x : DataW H × List MemPlace} (ht : P.underlying t = some (.int .i64)) (hf : DataW.trod enc P W base spare held fuel t cs = some x) : ∃ n, cs = [.int .i64 n] ∧ R64 n := by
  obtain ⟨n, rfl, _, hw⟩ := DataW.trod_int ht hf
  exact ⟨n, rfl, r64_of hw⟩
theorem trod_str1 {H : Type} {enc : TypeId × Value → H} {P : Program} {W : World} {base : Nat} {held : Bool} {spare : Nat → Bool} {fuel : Nat} {t : TypeId} {cs : List Value} {x : DataW H × List MemPlace} (ht : P.underlying t = some .string) (hf : DataW.trod enc P W base spare held fuel t cs = some x) (hz : ∀ n ∈ x.1.weights P t, n ≤ reachBytes) : ∃ l : List UInt8, cs = [strV l] ∧ l.length ≤ 140737488355328 := by
  obtain ⟨s, rfl, rfl, _⟩ := DataW.trod_string ht hf
  have hrb : reachBytes < 2 ^ 47 := reachBytes_lt
  have := hz s.data.toList.length (by simp [DataW.weights])
  refine ⟨s.data.toList, ?_, by omega⟩
  show _ = [Value.string (zb s.data.toList)]
  rw [show zb s.data.toList = s from by apply ByteArray.ext; simp [zb]]
theorem trod_intsN {H : Type} {enc : TypeId × Value → H} {P : Program} {W : World} {base : Nat} {held : Bool} {fuel : Nat} {t e : TypeId} {cs : List Value} {x : DataW H × List MemPlace} (ht : P.underlying t = some (.slice e)) (he : P.underlying e = some (.int .i64)) (ce : P.cellsOf e = 1) (be : P.bytesOf e = 8)
    (hf : DataW.trod enc P W base (fun _ => true) held fuel t cs = some x) (hz : ∀ n ∈ x.1.weights P t, n ≤ reachBytes) : ∃ a ps c, cs = [.slice a ps.length c] ∧ RdS 1 ic (absM W) (.slice a ps.length c) ps ∧ (∀ n ∈ ps, R64 n) ∧ ps.length ≤ 140737488355328 := by
  have hrb : reachBytes < 2 ^ 47 := reachBytes_lt
  rcases open_ints ht he ce hf with ⟨h1, _⟩ | ⟨a, len, cap, zs, h1, hx, hl, hm, hz2, _, hcell, hwz⟩
  · subst h1
    exact ⟨none, [], 0, rfl, RdS.nil (enc := ic) (k := 1) (fun _ => rfl) _, by simp, by simp⟩
  · subst h1
    have hlen2 : len ≤ 140737488355328 := by
      rcases Deep.open_slice ht hf with ⟨h1, _⟩ | ⟨a', len', cap', m, n, D, Pl, h1, _, _, _, _, h2, _⟩
      · cases h1
      · cases h1
        have := hz ((((List.range len).map D).length + ((List.range (m - len)).map fun j => D (len + j)).length) * P.bytesOf e) (by rw [h2]; simp [DataW.weights, ht])
        rw [be] at this
        simp at this; omega
    simp only [if_true] at hz2
    unfold maxLen at hm
    have hlen : (zs.take len).length = len := by rw [List.length_take]; omega
    refine ⟨some a, zs.take len, cap, by rw [hlen], ⟨fun _ => rfl, some a, cap, rfl, by rw [hlen]; exact hl, ?_⟩, fun n hn => r64_of (hwz n (List.mem_of_mem_take hn)), by rw [hlen]; omega⟩
    refine rd1_of (fun h => by cases h) fun a' ha c hc => ?_
    cases ha
    have e1 : ((zs.take len).flatMap ic) = (zs.take len).map fun n => .int .i64 n := by
      induction zs.take len with
      | nil => rfl
      | cons x r ih => rw [List.flatMap_cons, ih]; rfl
    simp only [e1] at hc ⊢
    simp only [List.length_map, hlen] at hc
    rw [hcell c (by omega)]
    simp [List.getElem_take, List.getD, List.getElem?_eq_getElem (show c < zs.length by omega)]
theorem wt_at {H : Type} {P : Program} {ts vt : List TypeId} {ds gs : List (DataW H)} {j : Nat} {t : TypeId} {d : DataW H} (h : (DataW.weightsEach P (ts ++ vt) (ds ++ gs)).all (· ≤ reachBytes) = true) (ht : ts[j]? = some t) (hd : ds[j]? = some d) : ∀ n ∈ d.weights P t, n ≤ reachBytes := fun n hn => by
  have h1 := (List.getElem?_eq_some_iff.1 ht).1
  have h2 := (List.getElem?_eq_some_iff.1 hd).1
  have := List.all_eq_true.1 h n (DataW.weights_mem_each (j := j) (t := t) (d := d) (by rw [List.getElem?_append_left h1]; exact ht) (by rw [List.getElem?_append_left h2]; exact hd) n hn)
  simpa using this
set_option maxRecDepth 100000 in
theorem trod_cmd {H : Type} {enc : TypeId × Value → H} {W : World} {base : Nat} {held : Bool} {fuel : Nat} {cs : List Value} {x : DataW H × List MemPlace} (hf : DataW.trod enc Tryz.prog W base (fun _ => true) held fuel 23 cs = some x) (hz : ∀ n ∈ x.1.weights Tryz.prog 23, n ≤ reachBytes) :
    ∃ (k c q : Int) (l1 l2 l3 l4 : List UInt8), cs = [.int .i64 k, .int .i64 c, .int .i64 q, strV l1, strV l2, strV l3, strV l4] ∧ l1.length ≤ 140737488355328 ∧ l2.length ≤ 140737488355328 ∧ l3.length ≤ 140737488355328 ∧ l4.length ≤ 140737488355328 := by
  obtain ⟨xs, n, _, hxe, hlen, hxs, hg⟩ := DataW.trod_struct Tryz.underlying23 hf
  have hlen : cs.length = 7 := hlen.trans (by kernel_rfl)
  have hxs : xs.length = 7 := hxs
  obtain ⟨c0, c1, c2, c3, c4, c5, c6, rfl⟩ : ∃ c0 c1 c2 c3 c4 c5 c6, cs = [c0, c1, c2, c3, c4, c5, c6] := by
    rcases cs with _ | ⟨c0, _ | ⟨c1, _ | ⟨c2, _ | ⟨c3, _ | ⟨c4, _ | ⟨c5, _ | ⟨c6, _ | ⟨c7, r⟩⟩⟩⟩⟩⟩⟩⟩ <;> simp at hlen
    exact ⟨_, _, _, _, _, _, _, rfl⟩
  obtain ⟨x0, x1, x2, x3, x4, x5, x6, rfl⟩ : ∃ c0 c1 c2 c3 c4 c5 c6, xs = [c0, c1, c2, c3, c4, c5, c6] := by
    rcases xs with _ | ⟨c0, _ | ⟨c1, _ | ⟨c2, _ | ⟨c3, _ | ⟨c4, _ | ⟨c5, _ | ⟨c6, _ | ⟨c7, r⟩⟩⟩⟩⟩⟩⟩⟩ <;> simp at hxs
    exact ⟨_, _, _, _, _, _, _, rfl⟩
  have hzj : ∀ (j : Nat) (d : DataW H), [x0.1, x1.1, x2.1, x3.1, x4.1, x5.1, x6.1][j]? = some d → [3, 3, 3, 9, 9, 9, 9][j]? = some 9 → ∀ n ∈ d.weights Tryz.prog 9, n ≤ reachBytes := fun j d hd ht n hn => by
    refine hz n ?_
    rw [hxe]
    show n ∈ DataW.weights Tryz.prog 23 (.agg [x0.1, x1.1, x2.1, x3.1, x4.1, x5.1, x6.1])
    unfold DataW.weights
    rw [Tryz.underlying23]
    exact DataW.weights_mem_each (j := j) ht hd n hn
  have e0 : Tryz.prog.cellsOf 3 = 1 := by kernel_rfl
  have e4 : Tryz.prog.cellsOf 9 = 1 := by kernel_rfl
  have g0 : DataW.trod enc Tryz.prog W base (fun _ => true) held n 3 (([c0, c1, c2, c3, c4, c5, c6].drop 0).take (Tryz.prog.cellsOf 3)) = some x0 := hg 0 _ rfl
  have g1 : DataW.trod enc Tryz.prog W base (fun _ => true) held n 3 (([c0, c1, c2, c3, c4, c5, c6].drop 1).take (Tryz.prog.cellsOf 3)) = some x1 := hg 1 _ rfl
  have g2 : DataW.trod enc Tryz.prog W base (fun _ => true) held n 3 (([c0, c1, c2, c3, c4, c5, c6].drop 2).take (Tryz.prog.cellsOf 3)) = some x2 := hg 2 _ rfl
  have g3 : DataW.trod enc Tryz.prog W base (fun _ => true) held n 9 (([c0, c1, c2, c3, c4, c5, c6].drop 3).take (Tryz.prog.cellsOf 9)) = some x3 := hg 3 _ rfl
  have g4 : DataW.trod enc Tryz.prog W base (fun _ => true) held n 9 (([c0, c1, c2, c3, c4, c5, c6].drop 4).take (Tryz.prog.cellsOf 9)) = some x4 := hg 4 _ rfl
  have g5 : DataW.trod enc Tryz.prog W base (fun _ => true) held n 9 (([c0, c1, c2, c3, c4, c5, c6].drop 5).take (Tryz.prog.cellsOf 9)) = some x5 := hg 5 _ rfl
  have g6 : DataW.trod enc Tryz.prog W base (fun _ => true) held n 9 (([c0, c1, c2, c3, c4, c5, c6].drop 6).take (Tryz.prog.cellsOf 9)) = some x6 := hg 6 _ rfl
  rw [e0] at g0 g1 g2
  rw [e4] at g3 g4 g5 g6
  obtain ⟨k, ek, _⟩ := trod_int1 Tryz.underlying3 g0
  obtain ⟨c, ec, _⟩ := trod_int1 Tryz.underlying3 g1
  obtain ⟨q, eq, _⟩ := trod_int1 Tryz.underlying3 g2
  obtain ⟨l1, e1, h1⟩ := trod_str1 Tryz.underlying9 g3 (hzj 3 _ rfl rfl)
  obtain ⟨l2, e2, h2⟩ := trod_str1 Tryz.underlying9 g4 (hzj 4 _ rfl rfl)
  obtain ⟨l3, e3, h3⟩ := trod_str1 Tryz.underlying9 g5 (hzj 5 _ rfl rfl)
  obtain ⟨l4, e4, h4⟩ := trod_str1 Tryz.underlying9 g6 (hzj 6 _ rfl rfl)
  cases ek; cases ec; cases eq; cases e1; cases e2; cases e3; cases e4
  exact ⟨k, c, q, l1, l2, l3, l4, rfl, h1, h2, h3, h4⟩
set_option maxRecDepth 100000 in
theorem trod_stp {H : Type} {enc : TypeId × Value → H} {W : World} {base : Nat} {held : Bool} {fuel : Nat} {cs : List Value} {x : DataW H × List MemPlace} (hf : DataW.trod enc Tryz.prog W base (fun _ => true) held fuel 26 cs = some x) (hz : ∀ n ∈ x.1.weights Tryz.prog 26, n ≤ reachBytes) :
    ∃ (s : Stp) (a : Option Addr) (c : Nat), cs = stc s a s.picks.length c ∧ s.ok ∧ Len s ∧ RdS 1 ic (absM W) (.slice a s.picks.length c) s.picks ∧ s.picks.length ≤ 281474976710656 := by
  obtain ⟨xs, n, _, hxe, hlen, hxs, hg⟩ := DataW.trod_struct Tryz.underlying26 hf
  have hlen : cs.length = 12 := hlen.trans (by kernel_rfl)
  have hxs : xs.length = 6 := hxs
  obtain ⟨c0, c1, c2, c3, c4, c5, c6, c7, c8, c9, c10, c11, rfl⟩ : ∃ c0 c1 c2 c3 c4 c5 c6 c7 c8 c9 c10 c11, cs = [c0, c1, c2, c3, c4, c5, c6, c7, c8, c9, c10, c11] := by
    rcases cs with _ | ⟨c0, _ | ⟨c1, _ | ⟨c2, _ | ⟨c3, _ | ⟨c4, _ | ⟨c5, _ | ⟨c6, _ | ⟨c7, _ | ⟨c8, _ | ⟨c9, _ | ⟨c10, _ | ⟨c11, _ | ⟨c12, r⟩⟩⟩⟩⟩⟩⟩⟩⟩⟩⟩⟩⟩ <;> simp at hlen
    exact ⟨_, _, _, _, _, _, _, _, _, _, _, _, rfl⟩
  obtain ⟨x0, x1, x2, x3, x4, x5, rfl⟩ : ∃ c0 c1 c2 c3 c4 c5, xs = [c0, c1, c2, c3, c4, c5] := by
    rcases xs with _ | ⟨c0, _ | ⟨c1, _ | ⟨c2, _ | ⟨c3, _ | ⟨c4, _ | ⟨c5, _ | ⟨c6, r⟩⟩⟩⟩⟩⟩⟩ <;> simp at hxs
    exact ⟨_, _, _, _, _, _, rfl⟩
  have hzj : ∀ (j : Nat) (t : TypeId) (d : DataW H), [x0.1, x1.1, x2.1, x3.1, x4.1, x5.1][j]? = some d → [3, 3, 3, 3, 23, 24][j]? = some t → ∀ n ∈ d.weights Tryz.prog t, n ≤ reachBytes := fun j t d hd ht n hn => by
    refine hz n ?_
    rw [hxe]
    show n ∈ DataW.weights Tryz.prog 26 (.agg [x0.1, x1.1, x2.1, x3.1, x4.1, x5.1])
    unfold DataW.weights
    rw [Tryz.underlying26]
    exact DataW.weights_mem_each (j := j) ht hd n hn
  have e0 : Tryz.prog.cellsOf 3 = 1 := by kernel_rfl
  have e4 : Tryz.prog.cellsOf 23 = 7 := by kernel_rfl
  have e5 : Tryz.prog.cellsOf 24 = 1 := by kernel_rfl
  have g0 : DataW.trod enc Tryz.prog W base (fun _ => true) held n 3 (([c0, c1, c2, c3, c4, c5, c6, c7, c8, c9, c10, c11].drop 0).take (Tryz.prog.cellsOf 3)) = some x0 := hg 0 _ rfl
  have g1 : DataW.trod enc Tryz.prog W base (fun _ => true) held n 3 (([c0, c1, c2, c3, c4, c5, c6, c7, c8, c9, c10, c11].drop 1).take (Tryz.prog.cellsOf 3)) = some x1 := hg 1 _ rfl
  have g2 : DataW.trod enc Tryz.prog W base (fun _ => true) held n 3 (([c0, c1, c2, c3, c4, c5, c6, c7, c8, c9, c10, c11].drop 2).take (Tryz.prog.cellsOf 3)) = some x2 := hg 2 _ rfl
  have g3 : DataW.trod enc Tryz.prog W base (fun _ => true) held n 3 (([c0, c1, c2, c3, c4, c5, c6, c7, c8, c9, c10, c11].drop 3).take (Tryz.prog.cellsOf 3)) = some x3 := hg 3 _ rfl
  have g4 : DataW.trod enc Tryz.prog W base (fun _ => true) held n 23 (([c0, c1, c2, c3, c4, c5, c6, c7, c8, c9, c10, c11].drop 4).take (Tryz.prog.cellsOf 23)) = some x4 := hg 4 _ rfl
  have g5 : DataW.trod enc Tryz.prog W base (fun _ => true) held n 24 (([c0, c1, c2, c3, c4, c5, c6, c7, c8, c9, c10, c11].drop 11).take (Tryz.prog.cellsOf 24)) = some x5 := hg 5 _ rfl
  rw [e0] at g0 g1 g2 g3
  rw [e4] at g4
  rw [e5] at g5
  obtain ⟨k, ek, hk⟩ := trod_int1 Tryz.underlying3 g0
  obtain ⟨i, ei, hi⟩ := trod_int1 Tryz.underlying3 g1
  obtain ⟨j, ej, hj⟩ := trod_int1 Tryz.underlying3 g2
  obtain ⟨l, el, hl⟩ := trod_int1 Tryz.underlying3 g3
  obtain ⟨ck, cc, cq, l1, l2, l3, l4, ec, h1, h2, h3, h4⟩ := trod_cmd g4 (hzj 4 23 _ rfl rfl)
  obtain ⟨a, ps, c, ep, h5, h6, h7⟩ := trod_intsN Tryz.underlying24 Tryz.underlying3 (by kernel_rfl) (by kernel_rfl) g5 (hzj 5 24 _ rfl rfl)
  cases ek; cases ei; cases ej; cases el; cases ec; cases ep
  exact ⟨⟨k, i, j, l, ck, cc, cq, l1, l2, l3, l4, ps⟩, a, c, rfl, ⟨hi, hj, hl, h6⟩, ⟨by show l1.length ≤ _; omega, by show l2.length ≤ _; omega, by show l3.length ≤ _; omega, by show l4.length ≤ _; omega⟩, h5, by show ps.length ≤ _; omega⟩
set_option maxRecDepth 100000 in
theorem open_stp {H : Type} {enc : TypeId × Value → H} {W : World} {base : Nat} {held : Bool} {r : Reach} {b0 : Nat} {v : Value} {d : DataW H} {p : List MemPlace} (hv : Value.okWide Tryz.prog W r b0 26 v) (h : DataW.Trod enc Tryz.prog W base (fun _ => true) held 26 v d p) (hz : ∀ n ∈ d.weights Tryz.prog 26, n ≤ reachBytes) :
    ∃ (s : Stp) (a : Option Addr) (c : Nat), v = .agg (stc s a s.picks.length c).toArray ∧ s.ok ∧ Len s ∧ RdS 1 ic (absM W) (.slice a s.picks.length c) s.picks ∧ s.picks.length ≤ 281474976710656 := by
  obtain ⟨fuel, hf⟩ := h
  obtain ⟨cs, rfl, _⟩ := okWide_struct Tryz.underlying26 hv
  obtain ⟨s, a, c, e, h1, h2, h3, h4⟩ := trod_stp hf hz
  refine ⟨s, a, c, ?_, h1, h2, h3, h4⟩
  have : cs.toList = stc s a s.picks.length c := e
  rw [← this, Array.toArray_toList]
set_option maxRecDepth 100000 in
theorem open_txt {H : Type} {enc : TypeId × Value → H} {W : World} {base : Nat} {held : Bool} {r : Reach} {b0 : Nat} {v : Value} {d : DataW H} {p : List MemPlace} (hv : Value.okWide Tryz.prog W r b0 9 v) (h : DataW.Trod enc Tryz.prog W base (fun _ => true) held 9 v d p) (hz : ∀ n ∈ d.weights Tryz.prog 9, n ≤ reachBytes) :
    ∃ l : List UInt8, v = strV l ∧ l.length ≤ 281474976710656 := by
  obtain ⟨fuel, hf⟩ := h
  obtain ⟨s, rfl⟩ := okWide_string Tryz.underlying9 hv
  obtain ⟨l, e, hl⟩ := trod_str1 Tryz.underlying9 hf hz
  have e : [Value.string s] = [strV l] := e
  exact ⟨l, (List.cons.inj e).1, by omega⟩
/-- what a listed variable reads as -/
theorem lv_reads {P : Program} {w : World} : ∀ {l : List (String × DataW Unit)} {ps : List MemPlace}, DataW.LaidVars P w l ps → ∀ n d, (n, d) ∈ l → ∃ g t cs fuel p, P.globalNamed n = some g ∧ (P.globals[g]?).map (·.type) = some t ∧ w.var? P n = some cs ∧ DataW.trod (fun _ => ()) P w 0 (fun _ => true) false fuel t cs.toList = some (d, p)
  | [], _, _, _, _, hm => by cases hm
  | (n', d') :: r, ps, h, n, d, hm => by
    obtain ⟨g, t, cs, fuel, p, q, h1, h2, h3, h4, h5, _⟩ := h
    rcases List.mem_cons.1 hm with e | e
    · cases e
      exact ⟨g, t, cs, fuel, p, h1, h2, h3, h4⟩
    · exact lv_reads h5 n d e
/-- an array of numbers -/
theorem arr_of_trod {H : Type} {enc : TypeId × Value → H} {P : Program} {w : World} {base : Nat} {sp : Nat → Bool} {fuel n : Nat} {t e : TypeId} {cs : List Value} {k : IntKind} {zs : List Int} {p : List MemPlace} (ht : P.underlying t = some (.array n e)) (he : P.underlying e = some (.int k)) (hc : P.cellsOf e = 1) (hct : P.cellsOf t = n)
    (h : DataW.trod enc P w base sp false fuel t cs = some (.agg (zs.map fun z => .lit (.int k z)), p)) : cs = zs.map fun z => .int k z := by
  cases fuel with
  | zero => simp [DataW.trod] at h
  | succ fuel =>
    simp only [DataW.trod, ht] at h
    split at h
    · rename_i hl
      rw [hct] at hl
      obtain ⟨xs, hxs, h⟩ := Option.map_eq_some_iff.1 h
      obtain ⟨hxl, hx⟩ := mapM_some hxs
      simp only [Prod.mk.injEq, DataW.agg.injEq] at h
      obtain ⟨h1, _⟩ := h
      rw [List.length_range] at hxl
      have hzl : zs.length = n := by
        have := congrArg List.length h1
        simp at this; omega
      apply List.ext_getElem?
      intro i
      by_cases hi : i < n
      · obtain ⟨b, hb, hf⟩ := hx i i (by rw [List.getElem?_range hi])
        rw [hc, Nat.mul_one] at hf
        have hd : (cs.drop i).take 1 = [cs[i]] := by
          rw [List.drop_eq_getElem_cons (by omega)]; rfl
        rw [hd] at hf
        obtain ⟨z, ez, ex, _⟩ := DataW.trod_int he hf
        have h2 : (xs.map (·.1))[i]? = some (.lit (.int k z)) := by rw [List.getElem?_map, hb, ex]; rfl
        rw [h1, List.getElem?_map, List.getElem?_eq_getElem (by omega)] at h2
        have h3 : zs[i] = z := by simpa using h2
        rw [List.getElem?_map, List.getElem?_eq_getElem (by omega), List.getElem?_eq_getElem (show i < zs.length by omega), Option.map_some, h3]
        exact congrArg some (List.cons.inj ez).1
      · rw [List.getElem?_eq_none (by omega), List.getElem?_eq_none (by rw [List.length_map]; omega)]
    · cases h
theorem var_cells {W : World} {n : String} {g : Nat} {cs : Array Value} (hg : Tryz.prog.globalNamed n = some g) (e3 : W.var? Tryz.prog n = some cs) : ∃ tt ff, W.heap[g]? = some (.cells cs tt ff) := by
  unfold World.var? at e3
  rw [hg, Option.bind_some] at e3
  cases ho : W.heap[g]? with
  | none => rw [ho] at e3; cases e3
  | some o =>
    rw [ho] at e3
    cases o <;> first | (cases e3; done) | skip
    rename_i c tt ff
    have e5 : c = cs := Option.some.inj e3
    exact ⟨tt, ff, by rw [e5]⟩
theorem iface_var {W : World} {n : String} {g : Nat} {d : DataW Unit} {nm : String} {d' : DataW Unit} (h : laidMetH Tryz.prog Rows.shellLinesRow.laid W) (hm : (n, d) ∈ (Rows.shellLinesRow.laid.filter fun x => x.2.handleName?.isNone)) (hd : d = .iface nm d') (hg : Tryz.prog.globalNamed n = some g)
    (hb : (((Tryz.prog.globals[g]?).map (·.type)).bind Tryz.prog.underlying).elim false (fun d => match d with | .interface _ => true | _ => false) = true) : ∃ t u, cellAt (absM W g) 0 = some (.iface t u) := by
  have h1 := (laidMetH_iff.1 h).1
  obtain ⟨ps, hl, _, _⟩ := h1
  obtain ⟨g', t, cs, fuel, p, e1, e2, e3, e4⟩ := lv_reads hl _ _ hm
  have eg : g' = g := Option.some.inj (e1.symm.trans hg)
  subst eg
  rw [e2] at hb
  obtain ⟨ms, hi⟩ : ∃ ms, Tryz.prog.underlying t = some (.interface ms) := by
    cases hu : Tryz.prog.underlying t with
    | none => rw [Option.bind_some, hu] at hb; cases hb
    | some d =>
      rw [Option.bind_some, hu] at hb
      cases d <;> first | exact ⟨_, rfl⟩ | (simp at hb)
  subst hd
  obtain ⟨f', u, v, hcs, _, _⟩ := iface_of_trod hi e4
  obtain ⟨tt, ff, ho⟩ := var_cells hg e3
  refine ⟨u, v, ?_⟩
  show cellAt (W.heap[g']?) 0 = _
  rw [ho]
  show cs[0]? = _
  rw [← Array.getElem?_toList, hcs]; rfl
theorem pow_lits : (Rows.laid_internal_strconv_uint64pow10 : DataW Unit) = .agg (Lib.pow10Tab.map fun z => .lit (.int .u64 z)) := by
  unfold Rows.laid_internal_strconv_uint64pow10 Lib.pow10Tab; rfl
theorem gs_of {W : World} (h : laidMetH Tryz.prog Rows.shellLinesRow.laid W) : Gs (absM W) := by
  refine ⟨?_, ?_, ?_⟩
  · have h1 := (laidMetH_iff.1 h).1
    obtain ⟨ps, hl, _, _⟩ := h1
    have hm : ("internal/strconv.uint64pow10", (Rows.laid_internal_strconv_uint64pow10 : DataW Unit)) ∈ (Rows.shellLinesRow.laid.filter fun x => x.2.handleName?.isNone) := by
      refine List.mem_filter.2 ⟨by simp [Rows.shellLinesRow], by decide +kernel⟩
    obtain ⟨g, t, cs, fuel, p, e1, e2, e3, e4⟩ := lv_reads hl _ _ hm
    have hg : Tryz.prog.globalNamed "internal/strconv.uint64pow10" = some 0 := by kernel_rfl
    have eg : g = 0 := Option.some.inj (e1.symm.trans hg)
    subst eg
    have ht : (Tryz.prog.globals[0]?).map (·.type) = some 222 := by kernel_rfl
    have et : t = 222 := Option.some.inj (e2.symm.trans ht)
    subst et
    rw [pow_lits] at e4
    have hc := arr_of_trod (P := Tryz.prog) (e := 149) (n := 20) (by kernel_rfl) (by kernel_rfl) (by kernel_rfl) (by kernel_rfl) e4
    obtain ⟨tt, ff, ho⟩ := var_cells hg e3
    refine ⟨tt, ff, ?_⟩
    show W.heap[0]? = _
    rw [ho, ← hc, Array.toArray_toList]
  · exact iface_var (g := 2) h (d := Rows.laid_strconv_ErrSyntax) (n := "strconv.ErrSyntax") (List.mem_filter.2 ⟨by simp [Rows.shellLinesRow], by decide +kernel⟩) rfl (by kernel_rfl) (by kernel_rfl)
  · exact iface_var (g := 3) h (d := Rows.laid_strconv_ErrRange) (n := "strconv.ErrRange") (List.mem_filter.2 ⟨by simp [Rows.shellLinesRow], by decide +kernel⟩) rfl (by kernel_rfl) (by kernel_rfl)
theorem glb_of {m : Mem} (h : Gs m) : Go.Ev.Glb Go.Ev.e0 Go.Ev.CM.lf.get m := by
  obtain ⟨t, fr, hp⟩ := h.pw
  intro B hB
  cases B with
  | succ B => exact (hB rfl).elim
  | zero =>
    refine ⟨by rw [hp]; simp, fun ⟨b, o, e, h1, _⟩ => ?_, fun i v x hi hx => ?_⟩
    · have : Go.Ev.CM.lf.get b = none := by cases b <;> rfl
      rw [this] at h1; cases h1
    · cases i with
      | succ i => simp [Go.Ev.M0] at hi
      | zero =>
        simp only [Go.Ev.M0, List.getElem?_cons_zero, Option.some.injEq] at hi
        subst hi
        simp only [Go.Ev.re, Option.some.injEq] at hx
        subst hx
        rw [Go.Ev.cell_at hp]
        rfl
theorem runs_ok : runsMC := fun M hG => Go.Ev.ys_Runs M (glb_of hG)
end Go.Fw
