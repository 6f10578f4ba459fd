import Derived.Test.YtbbiiodadoeflaaGreatDoorWe
import Derived.Test.YtbbiiodadoeflaaGreatDoorFxB
import Derived.ChangeSlices
import Derived.Deep.Matrix
set_option linter.unusedVariables false
set_option linter.unusedSimpArgs false
namespace Go.Fw
open Go.Proofs
variable {m m0 M : Mem} {S : List Nat} {L : List As}
theorem texts_s {v u : Value} {vs us : List Value} {l : List Bs} (hv : RdS 1 v1 m v vs) (hF : F2 (fun v l => RdB m v l) vs l) (hu : RdS 1 v1 m u us) (hus : us = l.map fun b => .string (zb b)) (hvl : vs.length ≤ 1000000000) :
    MC Tryz.prog n_law10_texts [v, u] m fun w M => w = .bool true ∧ Fr m M [] := by
  have h1 := F2_len hF
  have h2 : us.length = l.length := by rw [hus]; simp
  obtain ⟨a, c, rfl⟩ := hv.form
  obtain ⟨a2, c2, rfl⟩ := hu.form
  refine law10_texts_go (by simp [Tryz.f33]) ?_
  simp (disch := omega) only [go_sem, undef, dec_f (show ¬ ((vs.length : Nat) : Int) ≠ (us.length : Nat) by omega)]
  refine loopQ_intro (fun k E m' => ∃ j, j ≤ l.length ∧ k = l.length - j ∧ E = [(0, .slice a vs.length c), (1, .slice a2 us.length c2), (5, .int .i64 (j : Nat))] ∧ m' = m) l.length rfl ⟨0, by omega, by omega, rfl, rfl⟩ ?_
  rintro k E M1 ⟨j, hj, rfl, rfl, rfl⟩
  simp (disch := omega) only [go_sem, undef]
  refine condB_dec (fun hlt => ?_) (fun hlt => ?_)
  · have hlt : j < l.length := by omega
    refine F2_at hF (show j < vs.length by omega) fun x0 x hx0 hx hX => ?_
    refine RdS.elK hv (show j < vs.length by omega) (by decide) fun bx o x' hx' hix hE => ?_
    refine RdS.elK hu (show j < us.length by omega) (by decide) fun bx2 o2 y' hy' hiy hE2 => ?_
    rw [hx0] at hx'
    cases hx'
    have hy : y' = .string (zb x) := by
      rw [hus, List.getElem?_map, hx] at hy'
      simpa using hy'.symm
    subst hy
    refine Exists.elim hX.form fun a3 hh => Exists.elim hh fun c3 ev => ?_
    subst ev
    have hb2 := rd_b2s hX
    simp (disch := omega) only [go_sem, undef, hix, hiy, hE.ld0, hE2.ld0, hb2, rd_str_neq]
    refine condB_dec (fun _ => ?_) (fun hne => absurd rfl hne)
    simp (disch := omega) only [go_sem, undef]
    exact handN_intro (l.length - (j + 1)) (by omega) ⟨j + 1, by omega, rfl, rfl, rfl⟩
  · simp (disch := omega) only [go_sem, undef]
    exact ⟨rfl, Fr.refl _ _⟩
theorem mrkQ {P : Program} {b o n c : Nat} {arr : Array Value} {t : TypeId} {K : Value → Mem → Prop} {lk : Lk K} (H : Hq m0 m S (cellA b (.cells arr t (0, 0)) :: L))
    (hK : ∀ M, Fr m M [b] → Hq m0 M S (cellA b (.cells arr t (arr.size, arr.size + 1)) :: L) → K (.slice (some ⟨b, o, none⟩) n c) M) : xsP P .mrk [.slice (some ⟨b, o, none⟩) n c] m K lk := by
  show mrkP m K (some ⟨b, o, none⟩) n c
  refine ⟨arr, t, (0, 0), H.cs.1, .inl rfl, ?_⟩
  exact wrQ0 (l := {}) (l' := {}) (x := .cells arr t (arr.size, arr.size + 1)) (J := fun M => K (.slice (some ⟨b, o, none⟩) n c) M) H fun M f H => hK M f H
theorem row_rds {b n : Nat} {l : List Value} {T : TypeId} {fr : Nat × Nat} (hb : m b = some (.cells l.toArray T fr)) (hn : n = l.length) : RdS 1 v1 m (.slice (some ⟨b, 0, none⟩) n n) l := by
  subst hn
  exact ⟨v1_len, _, _, rfl, Nat.le_refl _, .inr ⟨b, 0, rfl, fun i v hv => by rw [hb, cellAt_cells, Nat.zero_add, List.getElem?_toArray]; rw [show l.flatMap v1 = l from List.flatMap_singleton' l] at hv; exact hv⟩⟩
theorem byte_rd {b : Nat} {x : UInt8} {T : TypeId} {fr : Nat × Nat} (hb : m b = some (.cells #[.int .u8 (x.toNat : Nat)] T fr)) : RdB m (.slice (some ⟨b, 0, none⟩) 1 1) [x] :=
  ⟨bc_len, _, _, rfl, Nat.le_refl _, .inr ⟨b, 0, rfl, fun i v hv => by rw [hb, cellAt_cells, Nat.zero_add]; simpa [bc] using hv⟩⟩
theorem open_nil : MC Tryz.prog n_wal_Open [.pointer none] m fun u M => u = .tuple #[.pointer none, .slice none 0 0, .int .i64 1] ∧ Fr m M [] := by
  refine wal_Open_go (by simp [Tryz.f33]) ?_
  have hns : (none : Option Addr).isNone = true := rfl
  simp (disch := omega) only [go_sem, undef, hns]
  exact ⟨rfl, Fr.refl _ _⟩
theorem hdR_len (l : List Bs) : (hdR l).length ≤ 16 + l.flatten.length + 6 * l.length := by
  have := numB_len (l.length : Nat)
  unfold hdR frO
  rw [List.length_append, frs_len]
  split
  · rw [frB_len]; omega
  · simp only [List.length_nil]; omega
end Go.Fw
namespace Go.Fw
open Go.Proofs
variable {m m0 M : Mem} {S : List Nat} {L : List As}
set_option maxHeartbeats 8000000 in
theorem walRuns_s : MC Tryz.prog n_law10_WalRuns [] m fun u M => u = .bool true ∧ Fr m M [] := by
  refine law10_WalRuns_go (by simp [Tryz.f33]) ?_
  have H := Hq.refl m []
  simp (disch := omega) only [go_sem, undef]
  refine callN H (disk_New_s 9999 (by decide)) fun u M A' hR f H => ?_
  obtain ⟨rb, rfl, rfl⟩ := hR
  simp (disch := omega) only [go_sem, undef]
  refine callA0 H (open_0 (H.at 0 rfl) rfl (by decide)) fun u M A' hR f H => ?_
  obtain ⟨wb, w, vs, fv, rs, rfl, rfl⟩ := hR
  have H := H.split
  have hrb := H.at 0 rfl
  have hvs : vs.length = 0 := F2_len hrb.2
  obtain ⟨a, c, rfl⟩ := hrb.1.1.form
  have hn1 : ∀ b : Nat, (some (⟨b, 0, none⟩ : Addr)).isNone = false := fun _ => rfl
  have nc0 : ((0 : Nat) : Int) = 0 := rfl
  simp (disch := omega) only [go_sem, undef, hn1, hvs, nc0, hvs]
  have H := H.tail
  refine newQ H fun b1 M f1 H => ?_
  simp (disch := omega) only [go_sem, undef]
  refine mrkQ H fun M f2 H => ?_
  simp (disch := omega) only [go_sem, undef]
  refine newQ H fun b2 M f3 H => ?_
  simp (disch := omega) only [go_sem, undef]
  have hW : addF [[120]] ⟨0, 0, false⟩ ⟨9999, [], false, false, 0⟩ = (⟨0, 0, false⟩, ⟨9999, [], false, false, 0⟩, 8) := by unfold addF; simp
  have hadd := add_s (H.at 2 rfl) (by decide) (by decide) (l := [[120]]) (row_rds H.cs.1 rfl) (.cons (byte_rd (x := 120) H.cs.2.1) .nil) (by decide) (Nat.le_of_ble_eq_true rfl) (Nat.le_of_ble_eq_true rfl) (Nat.le_of_ble_eq_true rfl) (Nat.le_of_ble_eq_true rfl) (Nat.le_of_ble_eq_true rfl) (Nat.le_of_ble_eq_true rfl)
  rw [hW] at hadd
  refine callA2 H hadd fun u M A' hR f H => ?_
  obtain ⟨rfl, fv, rs, rfl⟩ := hR
  have H := H.tail.tail
  clear hadd hW hrb
  simp (disch := omega) only [go_sem, undef]
  refine newQ H fun b1 M f1 H => ?_
  simp (disch := omega) only [go_sem, undef]
  refine mrkQ H fun M f2 H => ?_
  simp (disch := omega) only [go_sem, undef]
  refine newQ H fun b2 M f1 H => ?_
  simp (disch := omega) only [go_sem, undef]
  refine mrkQ H fun M f2 H => ?_
  simp (disch := omega) only [go_sem, undef]
  refine newQ H fun b3 M f3 H => ?_
  simp (disch := omega) only [go_sem, undef]
  have hok0 : Okd ⟨9999, [], false, false, 0⟩ := ⟨rfl, rfl, gen_nil.srt⟩
  have hl2 := hdR_len [[97], [98]]
  have hl2 : (hdR [[97], [98]]).length ≤ 30 := hl2
  refine callA3 H (anew_g (g := 0) (segs := []) (l := [[97], [98]]) (H.at 3 rfl) hok0 gen_nil (by decide) (by decide) (row_rds H.cs.1 rfl) (.cons (byte_rd (x := 97) H.cs.2.2.1) (.cons (byte_rd (x := 98) H.cs.2.1) .nil)) (by decide) (Nat.le_of_ble_eq_true rfl) (Nat.le_of_ble_eq_true rfl) (Nat.le_of_ble_eq_true rfl) (Nat.le_of_ble_eq_true rfl) (Nat.le_of_ble_eq_true rfl) (by simp [tot]; omega)) fun u M A' hR f H => ?_
  obtain ⟨fv, rs, F, rfl, rfl, G, R, ht⟩ := hR
  have H := H.tail.tail.tail
  have ht : tot F ≤ 30 := by simp [tot] at ht; simp [tot]; omega
  simp (disch := omega) only [go_sem, undef]
  refine newQ H fun b1 M f1 H => ?_
  simp (disch := omega) only [go_sem, undef]
  refine mrkQ H fun M f2 H => ?_
  simp (disch := omega) only [go_sem, undef]
  refine newQ H fun b2 M f1 H => ?_
  simp (disch := omega) only [go_sem, undef]
  have hfr : (frs [[99]]).length = 7 := by rw [frs_len]; rfl
  refine callA2 H (add_g (g := 0 + 1) (segs := [hdR [[97], [98]]]) (l := [[99]]) (H.at 2 rfl) (hok0.with G.srt) G R (by decide) (by decide) (by simp) (by simp) (by simp) (row_rds H.cs.1 rfl) (.cons (byte_rd (x := 99) H.cs.2.1) .nil) (by decide) (Nat.le_of_ble_eq_true rfl) (Nat.le_of_ble_eq_true rfl) (by simp only; omega) (Nat.le_of_ble_eq_true rfl) (Nat.le_of_ble_eq_true rfl) (by simp only; omega)) fun u M A' hR f H => ?_
  obtain ⟨fv, rs, F2, segs2, rfl, rfl, G2, R2, ht2, es⟩ := hR
  rw [List.getLast_singleton, if_neg (by omega)] at es
  have hs2 : segs2.length = 1 := by rw [es]; rfl
  clear es
  have H := H.tail.tail.split
  have ht2 : tot F2 ≤ 37 := by rw [ht2]; simp only; omega
  simp (disch := omega) only [go_sem, undef]
  refine callA1 H (open_g (H.at 1 rfl) (hok0.with G2.srt) G2 R2 (by decide) (by decide) (by omega) (by simp only; omega) (Nat.le_of_ble_eq_true rfl)) fun u M A' hR f H => ?_
  obtain ⟨wb2, w, vs, fv, rs, F3, rfl, rfl, G3, ht3⟩ := hR
  have ht3 : tot F3 ≤ 37 := by rw [ht3]; exact ht2
  have H := (H.perm (List.Perm.swap ..)).split.drop 2
  have hrb := H.at 0 rfl
  have hvl : vs.length = 3 := F2_len hrb.2
  obtain ⟨a, c, rfl⟩ := hrb.1.1.form
  simp (disch := omega) only [go_sem, undef, hn1, nc0]
  refine newQ H fun b1 M f1 H => ?_
  simp (disch := omega) only [go_sem, undef]
  have hrb := H.at 1 rfl
  refine callQ H (texts_s hrb.1.1 (F2_imp hrb.2 fun _ _ _ h => h.1) (row_rds (l := [.string (zb [97]), .string (zb [98]), .string (zb [99])]) H.cs.1 rfl) rfl (by omega)) fun M f2 H => ?_
  have H := H.tail.tail.split
  simp (disch := omega) only [go_sem, undef]
  refine callQ H (where_s H.cs.1) fun M f2 H => ?_
  have H := H.join
  simp (disch := omega) only [go_sem, undef]
  have hl0 := hdR_len []
  have hl0 : (hdR []).length ≤ 16 := hl0
  refine callA0 H (anew_g (g := 0 + 1) (segs := segs2) (l := []) (H.at 0 rfl) (hok0.with G3.srt) G3 (by decide) (by omega) (RdS.nil v1_len M) .nil (by decide) (Nat.le_of_ble_eq_true rfl) (Nat.le_of_ble_eq_true rfl) (by simp only; omega) (Nat.le_of_ble_eq_true rfl) (Nat.le_of_ble_eq_true rfl) (by simp only; omega)) fun u M A' hR f H => ?_
  obtain ⟨fv, rs, F4, rfl, rfl, G4, R4, ht4⟩ := hR
  have H := H.split
  have ht4 : tot F4 ≤ 53 := by simp only at ht4; omega
  simp (disch := omega) only [go_sem, undef]
  refine callQ H (where_s H.cs.1) fun M f2 H => ?_
  simp (disch := omega) only [go_sem, undef]
  refine callA1 H (open_g (H.at 1 rfl) (hok0.with G4.srt) G4 R4 (by decide) (by decide) (by decide) (by simp only; omega) (Nat.le_of_ble_eq_true rfl)) fun u M A' hR f H => ?_
  obtain ⟨wb3, w3, vs3, fv3, rs3, F5, rfl, rfl, G5, ht5⟩ := hR
  have hvl3 : vs3.length = 0 := by
    have H2 := (H.perm (List.Perm.swap ..)).split
    exact F2_len (H2.at 0 rfl).2
  have H2 := (H.perm (List.Perm.swap ..)).split
  obtain ⟨a3, c3, rfl⟩ := (H2.at 0 rfl).1.1.form
  simp (disch := omega) only [go_sem, undef]
  refine callQ H open_nil fun M f2 H => ?_
  have nc1 : ((1 : Nat) : Int) = 1 := rfl
  have nc01 : ((0 + 1 : Nat) : Int) = 1 := rfl
  have nc2 : ((0 + 1 + 1 : Nat) : Int) = 2 := rfl
  have nc8 : ((8 : Nat) : Int) = 8 := rfl
  simp (disch := omega) only [go_sem, undef, nc0, nc1, nc01, nc2, nc8, hs2, hvl3]
  exact ⟨rfl, H.fr⟩
end Go.Fw
namespace Go.Fw
open Go.RowKit Go.ChangeShapes Go.WideShapes
theorem rd1_of {W : World} {a : Option Addr} {l : List Value} (h0 : a = none → l = []) (h : ∀ a', a = some a' → ∀ c (hc : c < l.length), W.cell? (a'.add c) = some l[c]) : Rd1 (absM W) a l := by
  cases a with
  | none => exact .inl (h0 rfl)
  | some a =>
    by_cases hl : l = []
    · exact .inl hl
    · obtain ⟨b, o, s⟩ := a
      have hpos : 0 < l.length := List.length_pos_iff.2 hl
      have hs : s = none := by simpa [Addr.add] using World.cell?_spot (h _ rfl 0 hpos)
      subst hs
      refine .inr ⟨b, o, rfl, fun i v hv => ?_⟩
      obtain ⟨hi, rfl⟩ := List.getElem?_eq_some_iff.1 hv
      have := h _ rfl i hi
      rw [add_mk, ← cell_abs, cell_mk] at this
      exact this
def toB (z : Int) : UInt8 := UInt8.ofNat z.toNat
theorem toB_wf {z : Int} (h : (Lit.int .u8 z).wf = true) : ((toB z).toNat : Int) = z := by
  simp [Lit.wf, IntKind.min, IntKind.max, IntKind.bits, IntKind.signed] at h
  simp [toB]; omega
theorem F2_ofFn {α β : Type} {R : α → β → Prop} (n : Nat) (f : Nat → α) (g : Nat → β) (h : ∀ i, i < n → R (f i) (g i)) : F2 R ((List.range n).map f) ((List.range n).map g) := by
  have : ∀ l : List Nat, (∀ i ∈ l, i < n) → F2 R (l.map f) (l.map g) := by
    intro l
    induction l with
    | nil => intro _; exact .nil
    | cons x r ih => intro hl; exact .cons (h x (hl x (List.mem_cons_self ..))) (ih fun i hi => hl i (List.mem_cons_of_mem _ hi))
  exact this _ fun i hi => List.mem_range.1 hi
/-- rows of bytes that came in -/
theorem trod_byteRows {H : Type} {enc : TypeId × Value → H} {P : Program} {W : World} {base : Nat} {held : Bool} {fuel : Nat} {t e q : TypeId} {cs : List Value} {x : DataW H × List MemPlace} (ht : P.underlying t = some (.slice e)) (he : P.underlying e = some (.slice q)) (hq : P.underlying q = some (.int .u8))
    (ce : P.cellsOf e = 1) (cq : P.cellsOf q = 1) (hf : DataW.trod enc P W base (fun _ => true) held fuel t cs = some x) :
    ∃ v vs ls, cs = [v] ∧ RdS 1 v1 (absM W) v vs ∧ F2 (fun v l => RdB (absM W) v l) vs ls ∧ vs.length ≤ 9223372036854775807 ∧ ∀ l ∈ ls, l.length ≤ 9223372036854775807 := by
  rcases Deep.open_int_rows ht he hq ce cq hf with ⟨h1, _⟩ | ⟨a, n0, c0, A, L, C, Z, h1, _, hl, hm, _, hrows⟩
  · subst h1
    exact ⟨_, [], [], rfl, RdS.nil v1_len _, .nil, by simp, by simp⟩
  · subst h1
    unfold maxLen at hm
    refine ⟨_, (List.range n0).map fun r => .slice (A r) (L r) (C r), (List.range n0).map fun r => ((Z r).take (L r)).map toB, rfl, ⟨v1_len, some a, c0, by simp, by simpa using hl, ?_⟩, F2_ofFn _ _ _ fun i hi => ?_, by simp; omega, fun l hl2 => ?_⟩
    · refine rd1_of (fun h => by cases h) fun a' ha c hc => ?_
      cases ha
      have e1 : ((List.range n0).map fun r => Value.slice (A r) (L r) (C r)).flatMap v1 = (List.range n0).map fun r => Value.slice (A r) (L r) (C r) := List.flatMap_singleton' _
      simp only [e1] at hc ⊢
      simp only [List.length_map, List.length_range] at hc
      simpa using (hrows c (by omega)).1
    · obtain ⟨h1, h2, h3, h4, h5, h6, h7⟩ := hrows i (by omega)
      have hlen : ((Z i).take (L i)).length = L i := by rw [List.length_take]; omega
      have e1 : (((Z i).take (L i)).map toB).flatMap bc = ((Z i).take (L i)).map fun z => .int .u8 z := by
        rw [List.flatMap_map]
        have : ∀ l : List Int, (∀ n ∈ l, (Lit.int .u8 n).wf = true) → (l.flatMap fun z => bc (toB z)) = l.map fun z => .int .u8 z := by
          intro l
          induction l with
          | nil => intro _; rfl
          | cons x r ih =>
            intro hl
            have hx := toB_wf (hl x (List.mem_cons_self ..))
            rw [List.flatMap_cons, List.map_cons, ih fun n hn => hl n (List.mem_cons_of_mem _ hn)]
            simp only [bc, bv, hx, List.singleton_append]
        exact this _ fun n hn => h5 n (List.mem_of_mem_take hn)
      have hlen2 : (((Z i).take (L i)).map toB).length = L i := by rw [List.length_map, hlen]
      refine ⟨bc_len, A i, C i, by rw [hlen2], by rw [hlen2]; omega, ?_⟩
      rw [e1]
      refine rd1_of (fun h => ?_) fun a' ha c hc => ?_
      · have := h6 h
        have : (Z i).take (L i) = [] := List.eq_nil_of_length_eq_zero (by omega)
        rw [this]; rfl
      · simp only [List.length_map, hlen] at hc
        have := (h7 a' ha).2 c (by omega)
        rw [this]
        simp [List.getElem_take, List.getD, List.getElem?_eq_getElem (show c < (Z i).length by omega)]
    · obtain ⟨i, hi, rfl⟩ := List.mem_map.1 hl2
      obtain ⟨h1, h2, h3, h4, _⟩ := hrows i (by have := List.mem_range.1 hi; omega)
      unfold maxLen at h3
      rw [List.length_map, List.length_take]; omega
/-- numbers -/
theorem trod_ints {H : Type} {enc : TypeId × Value → H} {P : Program} {W : World} {base : Nat} {held : Bool} {fuel : Nat} {t e : TypeId} {cs : List Value} {x : DataW H × List MemPlace} (ht : P.underlying t = some (.slice e)) (he : P.underlying e = some (.int .i64)) (ce : P.cellsOf e = 1)
    (hf : DataW.trod enc P W base (fun _ => true) held fuel t cs = some x) : ∃ v ps, cs = [v] ∧ RdS 1 (fun n : Int => [.int .i64 n]) (absM W) v ps ∧ (∀ n ∈ ps, R64 n) ∧ ps.length ≤ 9223372036854775807 := by
  rcases open_ints ht he ce hf with ⟨h1, _⟩ | ⟨a, len, cap, zs, h1, _, hl, hm, hz, _, hcell, hwz⟩
  · subst h1
    exact ⟨_, [], rfl, RdS.nil (enc := fun n : Int => [Value.int .i64 n]) (k := 1) (fun _ => rfl) _, by simp, by simp⟩
  · subst h1
    simp only [if_true] at hz
    unfold maxLen at hm
    have hlen : (zs.take len).length = len := by rw [List.length_take]; omega
    refine ⟨_, zs.take len, rfl, ⟨fun _ => rfl, some a, cap, by rw [hlen], by rw [hlen]; exact hl, ?_⟩, fun n hn => r64_of (hwz n (List.mem_of_mem_take hn)), by rw [hlen]; omega⟩
    refine rd1_of (fun h => by cases h) fun a' ha c hc => ?_
    cases ha
    have e1 : ((zs.take len).flatMap fun n : Int => [Value.int .i64 n]) = (zs.take len).map fun n => .int .i64 n := by
      induction zs.take len with
      | nil => rfl
      | cons x r ih => rw [List.flatMap_cons, ih]; rfl
    simp only [e1] at hc ⊢
    simp only [List.length_map, hlen] at hc
    rw [hcell c (by omega)]
    simp [List.getElem_take, List.getD, List.getElem?_eq_getElem (show c < zs.length by omega)]
end Go.Fw
