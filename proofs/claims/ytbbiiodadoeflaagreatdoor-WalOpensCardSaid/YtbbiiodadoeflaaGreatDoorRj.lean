import Derived.Test.YtbbiiodadoeflaaGreatDoorWd
import Derived.Shelf.Strconv.AtoiAll
import Derived.Test.YtbbiiodadoeflaaGreatDoorRp
import Derived.Test.YtbbiiodadoeflaaGreatDoorRh
import Derived.Test.YtbbiiodadoeflaaGreatDoorWf
import Derived.Test.YtbbiiodadoeflaaGreatDoorRows
import Derived.LaidLaws
import Derived.LaidSub
set_option linter.unusedVariables false
set_option linter.unusedSimpArgs false
namespace Go.Fw
open Go.Proofs
variable {m m0 M : Mem} {S : List Nat} {L : List As}
variable {rb wb : Nat} {fv : Value} {rs : List Row} {D : Dk}
/-! Open over files of any names: strconv's error is read -/
def Gk (m : Mem) : Prop := ∃ ev, cellAt (m 1) 0 = some ev ∧ (ev = .nilIface ∨ ∃ te pe, ev = .iface te pe)
theorem Gk.some (h : Gk m) : m 1 ≠ none := by
  obtain ⟨ev, h1, _⟩ := h
  intro e; rw [e] at h1; simp [cellAt] at h1
theorem Gk.fr (h : Gk m) (f : Fr m M S) (hs : 1 ∉ S) : Gk M := by
  have e := f 1 h.some hs
  obtain ⟨ev, h1, h2⟩ := h
  exact ⟨ev, by rw [e]; exact h1, h2⟩
theorem Gk.nin {A : As} (h : Gk m) (H : Hq m M S L) (hA : A ∈ L) (hs : 1 ∉ S) : 1 ∉ A.wp := fun hm => (H.nw A hA 1 hm).elim h.some hs
def PlOkG (nm : Bs) : Prop := plF nm = none → ∀ m, Gk m → MC Tryz.prog n_wal_placed [.string (zb nm)] m fun u M => (∃ g k : Int, u = .tuple #[.agg #[.int .i64 g, .int .i64 k], .bool false]) ∧ Fr m M []
theorem placedG_g {nm : Bs} (h : PlOkG nm) (hG : Gk m) : MC Tryz.prog n_wal_placed [.string (zb nm)] m fun u M => (∃ g k : Int, u = .tuple #[.agg #[.int .i64 g, .int .i64 k], .bool (plF nm).isSome] ∧ ∀ p, plF nm = some p → g = (p.1 : Nat) ∧ k = (p.2 : Nat)) ∧ Fr m M [] := by
  cases hp : plF nm with
  | none =>
    refine (h hp m hG).mono fun u M ⟨⟨g, k, e⟩, f⟩ => ⟨⟨g, k, e, ?_⟩, f⟩
    intro p hp; cases hp
  | some p =>
    obtain ⟨h1, h2, h3, h4, rfl⟩ := plF_some hp
    refine (placed_s p.1 p.2 h2 h4 h1 h3).mono fun u M ⟨e, f⟩ => ⟨⟨_, _, e, ?_⟩, f⟩
    intro q hq; cases hq; exact ⟨rfl, rfl⟩
set_option maxHeartbeats 8000000 in
theorem greatestG_s (hG : Gk m) (h : (dkA rb fv rs D).p m) (hpl : ∀ x ∈ D.fl, PlOkG x.name) (h99 : ∀ g, g < 100 → lookF (nmB g 99) D.fl = none) (hn : D.fl.length ≤ 90000) (hT : tot D.fl ≤ 5000000) :
    MC Tryz.prog n_wal_greatest [lpD rb] m fun u M => u = .int .i64 (grF D.fl : Nat) ∧ Fr m M [] := by
  refine wal_greatest_go (by simp [Tryz.f33]) ?_
  have H := Hq.refl m []
  have hpl : ∀ nm ∈ D.fl.map Fl.name, PlOkG nm := fun nm hnm => by
    obtain ⟨x, hx, rfl⟩ := List.mem_map.1 hnm
    exact hpl x hx
  have hnl : (D.fl.map Fl.name).length ≤ 90000 := by rw [List.length_map]; exact hn
  have hgr : grF D.fl = grN D.fl ((D.fl.map Fl.name).drop 0) 0 := rfl
  simp (disch := omega) only [go_sem, undef]
  refine callN H (names_s h (by omega)) fun u M A' eA f H => ?_
  subst eA
  generalize D.fl.map Fl.name = ns at *
  refine Own.formK (H.at 0 rfl) fun a c e => ?_
  subst e
  simp (disch := omega) only [go_sem, undef]
  refine loopQ_intro (fun k E m' => ∃ j best, j ≤ ns.length ∧ k = ns.length - j ∧ best < 100 ∧ E = [(0, lpD rb), (3, .int .i64 (best : Nat)), (13, .slice a ns.length c), (14, .int .i64 (ns.length : Nat)), (15, .int .i64 (j : Nat))] ∧ grF D.fl = grN D.fl (ns.drop j) best ∧ Hq m m' [] [nsA (.slice a ns.length c) ns]) ns.length rfl ⟨0, 0, by omega, by omega, by omega, rfl, hgr, H⟩ ?_
  clear H f hgr
  rintro k E M1 ⟨j, best, hj, rfl, hb100, rfl, hgr, H⟩
  simp (disch := omega) only [go_sem, undef]
  refine condB_dec (fun hlt => ?_) (fun hlt => ?_)
  · have hlt : j < ns.length := by omega
    refine RdS.elK (Own.rds (k := 1) (enc := nmE) (by decide) nmE_len (H.at 0 rfl)) hlt (by decide) fun bx o x hx hix hE => ?_
    rw [grN_drop D.fl ns j best x hx] at hgr
    have hnm0 : (nmE x)[0]? = some (.string (zb x)) := rfl
    simp (disch := omega) only [go_sem, undef, hix, hE.ld0, hnm0]
    refine callR H (placedG_g (hpl x (List.mem_of_getElem? hx)) (hG.fr H.fr (by simp))) fun u M hR f H => ?_
    refine Exists.elim hR fun g1 hh => Exists.elim hh fun k1 hh => ?_
    have eu := hh.1
    have hpp := hh.2
    clear hh hR
    subst eu
    cases hplx : plF x with
    | none =>
      rw [hplx] at hgr
      have hnn : (none : Option (Nat × Nat)).isSome = false := rfl
      simp (disch := omega) only [go_sem, undef, hnn]
      refine newQ H fun b0 M f H => ?_
      simp (disch := omega) only [go_sem, undef]
      refine stwQ0 H rfl rfl fun M f H => ?_
      simp (disch := omega) only [go_sem, undef]
      exact handN_intro (ns.length - (j + 1)) (by omega) ⟨j + 1, best, by omega, rfl, hb100, rfl, hgr, H.tail⟩
    | some p =>
      rw [hplx] at hgr hpp
      have hss : (some p).isSome = true := rfl
      obtain ⟨e1, e2⟩ := hpp p rfl
      subst e1 e2
      have hp2 := plF_some hplx
      simp (disch := omega) only [go_sem, undef, hss]
      refine newQ H fun b0 M f H => ?_
      simp (disch := omega) only [go_sem, undef]
      refine stwQ0 H rfl rfl fun M f H => ?_
      simp (disch := omega) only [go_sem, undef, H.cs]
      refine condB_dec (fun hle => ?_) (fun hle => ?_)
      · have hle : p.1 ≤ best := by omega
        have hgr : grF D.fl = grN D.fl (ns.drop (j + 1)) best := by rw [hgr]; exact if_pos hle
        simp (disch := omega) only [go_sem, undef]
        exact handN_intro (ns.length - (j + 1)) (by omega) ⟨j + 1, best, by omega, rfl, hb100, rfl, hgr, H.tail⟩
      · have hle : ¬ p.1 ≤ best := by omega
        have hgr : grF D.fl = if (readG D.fl p.1).2.2.2 then grN D.fl (ns.drop (j + 1)) p.1 else grN D.fl (ns.drop (j + 1)) best := by rw [hgr]; exact if_neg hle
        have hd := (dkA rb fv rs D).fr0 h H.fr
        simp (disch := omega) only [go_sem, undef, H.cs]
        refine callN H (wal_read_s hd p.1 hp2.2.1 (h99 p.1 hp2.2.1) hn hT) fun u M A' hR f H => ?_
        obtain ⟨w2, vs2, rfl, rfl⟩ := hR
        have hcell := H.cs.1
        generalize readG D.fl p.1 = rg at *
        obtain ⟨recs, last, size, whole⟩ := rg
        simp (disch := omega) only [go_sem, undef, plV]
        refine newQ H fun b1 M f H => ?_
        simp (disch := omega) only [go_sem, undef]
        refine stwQ0 H rfl rfl fun M f H => ?_
        have hcell := H.cs.2.1
        cases whole with
        | true =>
          have hgr : grF D.fl = grN D.fl (ns.drop (j + 1)) p.1 := hgr
          simp (disch := omega) only [go_sem, undef, hcell]
          exact handN_intro (ns.length - (j + 1)) (by omega) ⟨j + 1, p.1, by omega, rfl, hp2.2.1, rfl, hgr, H.tail.tail.tail⟩
        | false =>
          have hgr : grF D.fl = grN D.fl (ns.drop (j + 1)) best := hgr
          simp (disch := omega) only [go_sem, undef, hcell]
          exact handN_intro (ns.length - (j + 1)) (by omega) ⟨j + 1, best, by omega, rfl, hb100, rfl, hgr, H.tail.tail.tail⟩
  · have e : j = ns.length := by omega
    subst e
    rw [List.drop_length] at hgr
    simp (disch := omega) only [go_sem, undef]
    rw [hgr]
    exact ⟨rfl, H.fr⟩
set_option maxHeartbeats 8000000 in
theorem cleanG_s (hG : Gk m) (h1 : 1 ∉ (dkA rb fv rs D).wp) (h : (dkA rb fv rs D).p m) (hpl : ∀ x ∈ D.fl, PlOkG x.name) (lg lk : Nat) (hn : D.fl.length ≤ 90000) (hl : D.left ≤ 9223372036854775807) :
    CM Tryz.prog n_wal_clean [lpD rb, .agg #[.int .i64 (lg : Int), .int .i64 (lk : Int)]] m (dkA rb fv rs D) (DkR rb (clF (lg, lk) D).1 (.int .i64 ((clF (lg, lk) D).2 : Nat))) := by
  have hpl : ∀ nm ∈ D.fl.map Fl.name, PlOkG nm := fun nm hnm => by
    obtain ⟨x, hx, rfl⟩ := List.mem_map.1 hnm
    exact hpl x hx
  have hnl : (D.fl.map Fl.name).length ≤ 90000 := by rw [List.length_map]; exact hn
  have hgr : clF (lg, lk) D = clN (lg, lk) ((D.fl.map Fl.name).drop 0) D := rfl
  refine wal_clean_go (by simp [Tryz.f33]) ?_
  have H := Hq.one h
  simp (disch := omega) only [go_sem, undef]
  refine newQ H fun b0 M f0 H => ?_
  simp (disch := omega) only [go_sem, undef]
  refine callN H (names_s (H.at 1 rfl) (by omega)) fun u M A' eA f H => ?_
  subst eA
  generalize D.fl.map Fl.name = ns at *
  refine Own.formK (H.at 0 rfl) fun a c e => ?_
  subst e
  simp (disch := omega) only [go_sem, undef]
  refine loopQ_intro (fun k E m' => ∃ j D' fv' rs', j ≤ ns.length ∧ k = ns.length - j ∧ D'.fl.length ≤ 90000 ∧ D'.left ≤ 9223372036854775807 ∧ E = [(0, lpD rb), (3, .pointer (some ⟨b0, 0, none⟩)), (11, .slice a ns.length c), (12, .int .i64 (ns.length : Nat)), (13, .int .i64 (j : Nat))] ∧ clF (lg, lk) D = clN (lg, lk) (ns.drop j) D' ∧ Hq m m' (dkA rb fv rs D).wp [nsA (.slice a ns.length c) ns, cellA b0 (.cells (pc ((lg : Nat), (lk : Nat))).toArray 95 (0, 0)), dkA rb fv' rs' D']) ns.length rfl ⟨0, D, fv, rs, by omega, by omega, hn, hl, rfl, hgr, H⟩ ?_
  clear H f f0 hgr
  rintro k E M1 ⟨j, D', fv', rs', hj, rfl, hn', hl', rfl, hgr, H⟩
  simp (disch := omega) only [go_sem, undef]
  refine condB_dec (fun hlt => ?_) (fun hlt => ?_)
  · have hlt : j < ns.length := by omega
    refine RdS.elK (Own.rds (k := 1) (enc := nmE) (by decide) nmE_len (H.at 0 rfl)) hlt (by decide) fun bx o x hx hix hE => ?_
    rw [clN_drop (lg, lk) ns j D' x hx] at hgr
    have hnm0 : (nmE x)[0]? = some (.string (zb x)) := rfl
    simp (disch := omega) only [go_sem, undef, hix, hE.ld0, hnm0]
    refine callR H (placedG_g (hpl x (List.mem_of_getElem? hx)) (hG.fr H.fr h1)) fun u M hR f H => ?_
    refine Exists.elim hR fun g1 hh => Exists.elim hh fun k1 hh => ?_
    have eu := hh.1
    have hpp := hh.2
    clear hh hR
    subst eu
    cases hplx : plF x with
    | none =>
      rw [hplx] at hgr
      have hnn : (none : Option (Nat × Nat)).isSome = false := rfl
      simp (disch := omega) only [go_sem, undef, hnn]
      refine newQ H fun b1 M f H => ?_
      simp (disch := omega) only [go_sem, undef]
      refine stwQ0 H rfl rfl fun M f H => ?_
      simp (disch := omega) only [go_sem, undef]
      exact handN_intro (ns.length - (j + 1)) (by omega) ⟨j + 1, D', fv', rs', by omega, rfl, hn', hl', rfl, hgr, H.tail⟩
    | some p =>
      rw [hplx] at hgr hpp
      have hss : (some p).isSome = true := rfl
      obtain ⟨e1, e2⟩ := hpp p rfl
      subst e1 e2
      have hp2 := plF_some hplx
      simp (disch := omega) only [go_sem, undef, hss]
      refine newQ H fun b1 M f H => ?_
      simp (disch := omega) only [go_sem, undef]
      refine stwQ0 H rfl rfl fun M f H => ?_
      have hc1 := H.cs.1
      have hc2 := H.cs.2.1
      by_cases hkeep : p.1 = lg ∧ p.2 ≤ lk
      · have hgr : clF (lg, lk) D = clN (lg, lk) (ns.drop (j + 1)) D' := by rw [hgr]; exact if_pos hkeep
        simp (disch := omega) only [go_sem, undef, hc1, hc2, dec_t (show ((p.1 : Nat) : Int) = (lg : Nat) by omega), dec_t (show ((p.2 : Nat) : Int) ≤ (lk : Nat) by omega)]
        exact handN_intro (ns.length - (j + 1)) (by omega) ⟨j + 1, D', fv', rs', by omega, rfl, hn', hl', rfl, hgr, H.tail⟩
      · have hgr : clF (lg, lk) D = if (rmF x D').2 ≠ 0 then rmF x D' else clN (lg, lk) (ns.drop (j + 1)) (rmF x D').1 := by rw [hgr]; exact if_neg hkeep
        have hrl := rm_le x D'
        have hrm := remove_s (H.at 3 rfl) x (by omega) hl'
        generalize rmF x D' = rr at *
        obtain ⟨D2, e2⟩ := rr
        have hrl1 : D2.fl.length ≤ D'.fl.length := hrl.1
        have hrl2 : D2.left ≤ D'.left := hrl.2
        by_cases hg : p.1 = lg
        · have hk : ¬ p.2 ≤ lk := fun h => hkeep ⟨hg, h⟩
          simp (disch := omega) only [go_sem, undef, hc1, hc2, dec_t (show ((p.1 : Nat) : Int) = (lg : Nat) by omega), dec_f (show ¬ ((p.2 : Nat) : Int) ≤ (lk : Nat) by omega)]
          refine callA 3 H hrm rfl fun u M A' hR f H => ?_
          obtain ⟨eu, fv2, rs2, eA⟩ := hR
          subst eu eA
          simp only [List.set_cons_succ, List.set_cons_zero] at H
          by_cases he : e2 = 0
          · subst he
            have hgr : clF (lg, lk) D = clN (lg, lk) (ns.drop (j + 1)) D2 := by rw [hgr]; exact if_neg (by simp)
            simp (disch := omega) only [go_sem, undef, dec_f (show ¬ ((0 : Nat) : Int) ≠ 0 by simp)]
            exact handN_intro (ns.length - (j + 1)) (by omega) ⟨j + 1, D2, fv2, rs2, by omega, rfl, by omega, by omega, rfl, hgr, H.tail⟩
          · have hgr : clF (lg, lk) D = (D2, e2) := by rw [hgr]; exact if_pos he
            simp (disch := omega) only [go_sem, undef, dec_t (show ((e2 : Nat) : Int) ≠ 0 by omega)]
            rw [hgr]
            exact cm_done H.tail.tail.tail
        · simp (disch := omega) only [go_sem, undef, hc1, hc2, dec_f (show ¬ ((p.1 : Nat) : Int) = (lg : Nat) by omega)]
          refine callA 3 H hrm rfl fun u M A' hR f H => ?_
          obtain ⟨eu, fv2, rs2, eA⟩ := hR
          subst eu eA
          simp only [List.set_cons_succ, List.set_cons_zero] at H
          by_cases he : e2 = 0
          · subst he
            have hgr : clF (lg, lk) D = clN (lg, lk) (ns.drop (j + 1)) D2 := by rw [hgr]; exact if_neg (by simp)
            simp (disch := omega) only [go_sem, undef, dec_f (show ¬ ((0 : Nat) : Int) ≠ 0 by simp)]
            exact handN_intro (ns.length - (j + 1)) (by omega) ⟨j + 1, D2, fv2, rs2, by omega, rfl, by omega, by omega, rfl, hgr, H.tail⟩
          · have hgr : clF (lg, lk) D = (D2, e2) := by rw [hgr]; exact if_pos he
            simp (disch := omega) only [go_sem, undef, dec_t (show ((e2 : Nat) : Int) ≠ 0 by omega)]
            rw [hgr]
            exact cm_done H.tail.tail.tail
  · have e : j = ns.length := by omega
    subst e
    rw [List.drop_length] at hgr
    simp (disch := omega) only [go_sem, undef]
    rw [hgr]
    exact cm_done H.tail.tail
set_option maxHeartbeats 8000000 in
theorem opG_tail {E : Env} {b0 lg lk : Nat} {w fv1 : Value} {rs1 : List Row} {vs : List Value} {recs : List Bs} {D1 : Dk} {o : (Option Wl × List Bs) × Dk × Nat} (hlg : lg < 100) (hlk : lk < 100) (hG : Gk m) (h1 : 1 ∉ (dkA rb fv rs D).wp) (hpl : ∀ x ∈ D1.fl, PlOkG x.name) (hn : D1.fl.length ≤ 90000) (hT : tot D1.fl ≤ 5000000) (hl : D1.left ≤ 9223372036854775807)
    (e0 : E.get 0 = lpD rb) (e7 : E.get 7 = w) (e8 : E.get 8 = .pointer (some ⟨b0, 0, none⟩)) (h0 : E.has 0 = true) (h7 : E.has 7 = true) (h8 : E.has 8 = true)
    (H : Hq m M (dkA rb fv rs D).wp [cellA b0 (.cells (pc ((lg : Nat), (lk : Nat))).toArray 95 (0, 0)), rbA w vs recs, dkA rb fv1 rs1 D1]) (ho : o = tlF lg lk recs D1) :
    wpN Tryz.prog opTail (retP [RV.slot 2, RV.slot 3, RV.slot 4] fun v M => ∃ A', OpR rb o v A' ∧ A'.p M ∧ Fr m M (dkA rb fv rs D).wp ∧ (∀ b ∈ A'.fp, b ∈ (dkA rb fv rs D).fp ∨ m b = none) ∧ ∀ b ∈ A'.wp, b ∈ (dkA rb fv rs D).wp ∨ m b = none) E M := by
  have hcl := cleanG_s (hG.fr H.fr h1) (hG.nin H (by simp) h1) (H.at 2 rfl) hpl lg lk hn hl
  have hle := cl_le (lg, lk) (D1.fl.map Fl.name) D1
  rw [show clN (lg, lk) (D1.fl.map Fl.name) D1 = clF (lg, lk) D1 from rfl] at hle
  unfold tlF at ho
  generalize clF (lg, lk) D1 = cr at *
  obtain ⟨D2, e2⟩ := cr
  simp only at hle ho
  have hsy := fun M fv rs (h : (dkA rb fv rs D2).p M) => sync_s h (nmB lg lk) (by omega) (by omega) (by omega)
  generalize syncF (nmB lg lk) D2 = sr at *
  obtain ⟨D3, e3⟩ := sr
  simp only at ho
  have hc := H.cs.1
  simp (disch := omega) only [go_sem, undef, e0, e7, e8, h0, h7, h8, hc]
  refine callA2 H hcl fun u M A' hR f H => ?_
  obtain ⟨eu, fv2, rs2, eA⟩ := hR
  subst eu eA
  by_cases he2 : e2 = 0
  · subst he2
    rw [if_neg (by simp)] at ho
    have hc := H.cs.1
    simp (disch := omega) only [go_sem, undef, e0, e7, e8, dec_f (show ¬ ((0 : Nat) : Int) ≠ 0 by simp), hc]
    refine callQ H (name_s lg lk hlg hlk) fun M f H => ?_
    simp (disch := omega) only [go_sem, undef, e0, e7, e8]
    refine callA2 H (hsy _ _ _ (H.at 2 rfl)) fun u M A' hR f H => ?_
    obtain ⟨eu, fv3, rs3, eA⟩ := hR
    subst eu eA
    by_cases he3 : e3 = 0
    · subst he3
      rw [if_neg (by simp)] at ho
      have hc := H.cs.1
      have hsp : spl 0 (pc (((lg : Nat) : Int), ((lk : Nat) : Int))) [Value.int .i64 0, .int .i64 0, .bool false] = some [.int .i64 (lg : Nat), .int .i64 (lk : Nat), .bool false] := rfl
      simp (disch := omega) only [go_sem, undef, e0, e7, e8, dec_f (show ¬ ((0 : Nat) : Int) ≠ 0 by simp), hc, hsp]
      refine newQ H fun b1 M f0 H => ?_
      simp (disch := omega) only [go_sem, undef, e0, e7, e8]
      have H := (H.drop 1).perm (List.Perm.cons _ (List.Perm.swap ..))
      exact op_done ho ((Hq.join (A := wcA b1 rb ⟨lg, lk, false⟩) H).perm (List.Perm.swap ..))
    · rw [if_pos he3] at ho
      simp (disch := omega) only [go_sem, undef, dec_t (show ((e3 : Nat) : Int) ≠ 0 by omega)]
      exact op_fail ho H.tail.tail
  · rw [if_pos he2] at ho
    simp (disch := omega) only [go_sem, undef, dec_t (show ((e2 : Nat) : Int) ≠ 0 by omega)]
    exact op_fail ho H.tail.tail
set_option maxHeartbeats 8000000 in
theorem openG_s (hG : Gk m) (h1 : 1 ∉ (dkA rb fv rs D).wp) (h : (dkA rb fv rs D).p m) (hpl : ∀ x ∈ D.fl, PlOkG x.name) (h99 : ∀ g, g < 100 → lookF (nmB g 99) D.fl = none) (hn : D.fl.length ≤ 90000) (hT : tot D.fl ≤ 5000000) (hl : D.left ≤ 9223372036854775807) (hkp : ∀ f ∈ D.fl, f.kept ≤ 1000000000) :
    CM Tryz.prog n_wal_Open [lpD rb] m (dkA rb fv rs D) (OpR rb (opF D)) := by
  have hgs := fun M (hG : Gk M) (h : (dkA rb fv rs D).p M) => greatestG_s hG h hpl h99 hn hT
  have hglt : grF D.fl < 100 := grN_lt _ _ _ (by decide)
  obtain ⟨o, ho⟩ : ∃ o, o = opF D := ⟨_, rfl⟩
  rw [← ho]
  unfold opF at ho
  have hns : (some (⟨rb, 0, none⟩ : Addr)).isNone = false := rfl
  have H := Hq.one h
  by_cases hg : grF D.fl = 0
  · rw [if_pos hg] at ho
    have hcl := fun M (hG : Gk M) (h : (dkA rb fv rs D).p M) => cleanG_s hG h1 h hpl 0 0 hn hl
    generalize clF (0, 0) D = cr at *
    obtain ⟨D1, e1⟩ := cr
    by_cases he : e1 = 0
    · subst he
      rw [if_neg (by simp)] at ho
      refine wal_Open_go (by simp [Tryz.f33]) ?_
      simp (disch := omega) only [go_sem, undef, hns]
      refine callQ H (hgs _ hG h) fun M f H => ?_
      simp (disch := omega) only [go_sem, undef, dec_t (show ((grF D.fl : Nat) : Int) = 0 by omega)]
      refine callA0 H (hcl _ (hG.fr H.fr h1) (H.at 0 rfl)) fun u M A' hR f H => ?_
      obtain ⟨eu, fv1, rs1, eA⟩ := hR
      subst eu eA
      simp (disch := omega) only [go_sem, undef, dec_f (show ¬ ((0 : Nat) : Int) ≠ 0 by simp)]
      refine newQ H fun b0 M f0 H => ?_
      simp (disch := omega) only [go_sem, undef]
      have H := Hq.join (A := wcA b0 rb ⟨0, 0, false⟩) H
      exact op_done ho (H.add (A := rbA (.slice none 0 0) [] []) rb_nil (Fr.refl _ _) (by simp [rbA, blkOf]))
    · rw [if_pos he] at ho
      refine wal_Open_go (by simp [Tryz.f33]) ?_
      simp (disch := omega) only [go_sem, undef, hns]
      refine callQ H (hgs _ hG h) fun M f H => ?_
      simp (disch := omega) only [go_sem, undef, dec_t (show ((grF D.fl : Nat) : Int) = 0 by omega)]
      refine callA0 H (hcl _ (hG.fr H.fr h1) (H.at 0 rfl)) fun u M A' hR f H => ?_
      obtain ⟨eu, fv1, rs1, eA⟩ := hR
      subst eu eA
      simp (disch := omega) only [go_sem, undef, dec_t (show ((e1 : Nat) : Int) ≠ 0 by omega)]
      exact op_fail ho H
  · rw [if_neg hg] at ho
    have hrd := fun M (h : (dkA rb fv rs D).p M) => wal_read_s h (grF D.fl) hglt (h99 _ hglt) hn hT
    have hok := readG_ok D.fl (grF D.fl)
    generalize readG D.fl (grF D.fl) = rg at *
    obtain ⟨recs, ⟨lg, lk⟩, size, whole⟩ := rg
    simp only at ho hok
    obtain ⟨hlg, hlk, hsz⟩ := hok
    have hcu := fun M (h : (dkA rb fv rs D).p M) => cut_s2 h (nmB lg lk) size (by omega) (by omega) hl (by omega) hkp
    have hcle := cut_le (nmB lg lk) size D
    generalize cutF (nmB lg lk) size D = cu at *
    obtain ⟨D1, e1⟩ := cu
    simp only at hcle
    obtain ⟨hc1, hc2, hc3, hc4⟩ := hcle
    have hpl1 : ∀ x ∈ D1.fl, PlOkG x.name := fun x hx => by
      have : x.name ∈ D.fl.map Fl.name := by rw [← hc4]; exact List.mem_map_of_mem hx
      obtain ⟨y, hy, e⟩ := List.mem_map.1 this
      rw [← e]; exact hpl y hy
    refine wal_Open_go (by simp [Tryz.f33]) ?_
    rw [open_code]
    generalize hC : opTail = C
    simp (disch := omega) only [go_sem, undef, hns]
    refine callQ H (hgs _ hG h) fun M f H => ?_
    simp (disch := omega) only [go_sem, undef, dec_f (show ¬ ((grF D.fl : Nat) : Int) = 0 by omega)]
    refine callN H (hrd _ (H.at 0 rfl)) fun u M A' hR f H => ?_
    obtain ⟨w2, vs2, rfl, rfl⟩ := hR
    simp (disch := omega) only [go_sem, undef, plV]
    refine newQ H fun b0 M f H => ?_
    simp (disch := omega) only [go_sem, undef]
    refine stwQ0 H rfl rfl fun M f H => ?_
    have hc := H.cs.1
    simp (disch := omega) only [go_sem, undef, hc]
    refine callQ H (name_s lg lk (by omega) hlk) fun M f H => ?_
    simp (disch := omega) only [go_sem, undef]
    refine callN H (read_s (H.at 2 rfl) (nmB lg lk) (by omega) (by omega)) fun u M A' hR f H => ?_
    obtain ⟨w3, rfl, rfl⟩ := hR
    refine Own.formK (H.at 0 rfl) fun a4 c4 e4 => ?_
    subst e4
    simp (disch := omega) only [go_sem, undef]
    have H := H.tail
    refine condB_dec (fun hlt => ?_) (fun hlt => ?_)
    · have hlt : size < (rdB (lookF (nmB lg lk) D.fl)).length := by omega
      rw [if_pos hlt] at ho
      have hc := H.cs.1
      simp (disch := omega) only [go_sem, undef, hc]
      refine callQ H (name_s lg lk (by omega) hlk) fun M f H => ?_
      simp (disch := omega) only [go_sem, undef]
      refine callA2 H (hcu _ (H.at 2 rfl)) fun u M A' hR f H => ?_
      obtain ⟨eu, fv1, rs1, eA⟩ := hR
      subst eu eA
      by_cases he1 : e1 = 0
      · subst he1
        simp (disch := omega) only [go_sem, undef, dec_f (show ¬ ((0 : Nat) : Int) ≠ 0 by simp)]
        subst hC
        refine opG_tail (by omega) hlk hG h1 hpl1 (by omega) (by omega) (by omega) rfl rfl rfl rfl rfl rfl H ?_
        rw [if_neg (by simp)] at ho
        exact ho
      · simp only [if_pos he1] at ho
        simp (disch := omega) only [go_sem, undef, dec_t (show ((e1 : Nat) : Int) ≠ 0 by omega)]
        exact op_fail ho H.tail.tail
    · have hlt : ¬ size < (rdB (lookF (nmB lg lk) D.fl)).length := by omega
      rw [if_neg hlt, if_neg (by simp)] at ho
      subst hC
      exact opG_tail (by omega) hlk hG h1 hpl hn hT hl rfl rfl rfl rfl rfl rfl H ho
end Go.Fw
namespace Go.Fw
open Go.Proofs Go.Shelf
/-! strconv.Atoi off the library's shelf -/
def atR : Ren where
  f := fun x => match x with | 172 => 95 | 244 => 108 | 245 => 109 | 247 => 115 | 279 => 116 | 280 => 117 | 281 => 118 | 282 => 119 | 287 => 128 | 316 => 129 | 171 => 78 | 205 => 130 | 321 => 138 | 322 => 139 | 243 => 99 | 246 => 111 | 283 => 120 | 284 => 121 | 285 => 122 | 286 => 123 | 129 => 132 | 317 => 131 | 318 => 133 | 319 => 134 | 320 => 135 | 337 => 140 | 338 => 141 | n => n
  t := fun x => match x with | 9 => 9 | 3 => 3 | 75 => 135 | 76 => 136 | 4 => 4 | 5 => 5 | 167 => 157 | 37 => 37 | 0 => 0 | 85 => 158 | 2 => 2 | 168 => 160 | 53 => 75 | 175 => 169 | 46 => 79 | 210 => 173 | 127 => 183 | 145 => 186 | 143 => 184 | 21 => 21 | 171 => 163 | 173 => 165 | 212 => 176 | 51 => 76 | 20 => 20 | 213 => 177 | 232 => 188 | 233 => 189 | 80 => 100 | n => n
  g := fun x => match x with | 15 => 1 | 16 => 2 | 17 => 3 | 18 => 4 | 19 => 5 | n => n
theorem at_lays : LaysC.n172 Tryz.prog atR where
  mixed := by kernel_rfl
  f129 := Eq.trans Tryz.func132 (congrArg some rfl)
  f171 := Eq.trans Tryz.func78 (congrArg some rfl)
  f172 := Eq.trans Tryz.func95 (congrArg some rfl)
  f205 := Eq.trans Tryz.func130 (congrArg some rfl)
  f243 := Eq.trans Tryz.func99 (congrArg some rfl)
  f244 := Eq.trans Tryz.func108 (congrArg some rfl)
  f245 := Eq.trans Tryz.func109 (congrArg some rfl)
  f246 := Eq.trans Tryz.func111 (congrArg some rfl)
  f247 := Eq.trans Tryz.func115 (congrArg some rfl)
  f279 := Eq.trans Tryz.func116 (congrArg some rfl)
  f280 := Eq.trans Tryz.func117 (congrArg some rfl)
  f281 := Eq.trans Tryz.func118 (congrArg some rfl)
  f282 := Eq.trans Tryz.func119 (congrArg some rfl)
  f283 := Eq.trans Tryz.func120 (congrArg some rfl)
  f284 := Eq.trans Tryz.func121 (congrArg some rfl)
  f285 := Eq.trans Tryz.func122 (congrArg some rfl)
  f286 := Eq.trans Tryz.func123 (congrArg some rfl)
  f287 := Eq.trans Tryz.func128 (congrArg some rfl)
  f316 := Eq.trans Tryz.func129 (congrArg some rfl)
  f317 := Eq.trans Tryz.func131 (congrArg some rfl)
  f318 := Eq.trans Tryz.func133 (congrArg some rfl)
  f319 := Eq.trans Tryz.func134 (congrArg some rfl)
  f320 := Eq.trans Tryz.func135 (congrArg some rfl)
  f321 := Eq.trans Tryz.func138 (congrArg some rfl)
  f322 := Eq.trans Tryz.func139 (congrArg some rfl)
  f337 := Eq.trans Tryz.func140 (congrArg some rfl)
  f338 := Eq.trans Tryz.func141 (congrArg some rfl)
  t0 := Tryz.underlying0
  a0 := Tryz.isAgg0
  z0 := Tryz.sizeOf0
  v0 := Tryz.zeroValue0
  t2 := Tryz.underlying2
  a2 := Tryz.isAgg2
  z2 := Tryz.sizeOf2
  v2 := Tryz.zeroValue2
  t3 := Tryz.underlying3
  a3 := Tryz.isAgg3
  z3 := Tryz.sizeOf3
  v3 := Tryz.zeroValue3
  t4 := Tryz.underlying4
  a4 := Tryz.isAgg4
  z4 := Tryz.sizeOf4
  v4 := Tryz.zeroValue4
  t5 := Tryz.underlying5
  a5 := Tryz.isAgg5
  z5 := Tryz.sizeOf5
  v5 := Tryz.zeroValue5
  t9 := Tryz.underlying9
  a9 := Tryz.isAgg9
  z9 := Tryz.sizeOf9
  v9 := Tryz.zeroValue9
  t20 := Tryz.underlying20
  a20 := Tryz.isAgg20
  z20 := Tryz.sizeOf20
  v20 := Tryz.zeroValue20
  t21 := Tryz.underlying21
  a21 := Tryz.isAgg21
  z21 := Tryz.sizeOf21
  v21 := Tryz.zeroValue21
  t37 := Tryz.underlying37
  a37 := Tryz.isAgg37
  z37 := Tryz.sizeOf37
  v37 := Tryz.zeroValue37
  t46 := Tryz.underlying79
  a46 := Tryz.isAgg79
  z46 := Tryz.sizeOf79
  v46 := Tryz.zeroValue79
  t51 := Tryz.underlying76
  a51 := Tryz.isAgg76
  z51 := Tryz.sizeOf76
  v51 := Tryz.zeroValue76
  t53 := Tryz.underlying75
  a53 := Tryz.isAgg75
  z53 := Tryz.sizeOf75
  v53 := Tryz.zeroValue75
  t75 := Tryz.underlying135
  a75 := Tryz.isAgg135
  z75 := Tryz.sizeOf135
  v75 := Tryz.zeroValue135
  t76 := Tryz.underlying136
  a76 := Tryz.isAgg136
  z76 := Tryz.sizeOf136
  v76 := Tryz.zeroValue136
  t85 := Tryz.underlying158
  a85 := Tryz.isAgg158
  z85 := Tryz.sizeOf158
  v85 := Tryz.zeroValue158
  t127 := Tryz.underlying183
  a127 := Tryz.isAgg183
  z127 := Tryz.sizeOf183
  v127 := Tryz.zeroValue183
  t143 := Tryz.underlying184
  a143 := Tryz.isAgg184
  z143 := Tryz.sizeOf184
  v143 := Tryz.zeroValue184
  t145 := Tryz.underlying186
  a145 := Tryz.isAgg186
  z145 := Tryz.sizeOf186
  v145 := Tryz.zeroValue186
  t167 := Tryz.underlying157
  a167 := Tryz.isAgg157
  z167 := Tryz.sizeOf157
  v167 := Tryz.zeroValue157
  t168 := Tryz.underlying160
  a168 := Tryz.isAgg160
  z168 := Tryz.sizeOf160
  v168 := Tryz.zeroValue160
  t171 := Tryz.underlying163
  a171 := Tryz.isAgg163
  z171 := Tryz.sizeOf163
  v171 := Tryz.zeroValue163
  t173 := Tryz.underlying165
  a173 := Tryz.isAgg165
  z173 := Tryz.sizeOf165
  v173 := Tryz.zeroValue165
  t175 := Tryz.underlying169
  a175 := Tryz.isAgg169
  z175 := Tryz.sizeOf169
  v175 := Tryz.zeroValue169
  t210 := Tryz.underlying173
  a210 := Tryz.isAgg173
  z210 := Tryz.sizeOf173
  v210 := Tryz.zeroValue173
  t212 := Tryz.underlying176
  a212 := Tryz.isAgg176
  z212 := Tryz.sizeOf176
  v212 := Tryz.zeroValue176
  t213 := Tryz.underlying177
  a213 := Tryz.isAgg177
  z213 := Tryz.sizeOf177
  t232 := Tryz.underlying188
  a232 := Tryz.isAgg188
  z232 := Tryz.sizeOf188
  v232 := Tryz.zeroValue188
  t233 := Tryz.underlying189
  a233 := Tryz.isAgg189
  z233 := Tryz.sizeOf189
  v233 := Tryz.zeroValue189
  g15 := by kernel_rfl
  g16 := by kernel_rfl
  g17 := by kernel_rfl
  g18 := by kernel_rfl
  g19 := by kernel_rfl
  t80 := Tryz.underlying100
  a80 := Tryz.isAgg100
  z80 := Tryz.sizeOf100
  v80 := Tryz.zeroValue100
  i0 := by kernel_rfl
  i2 := by kernel_rfl
  i3 := by kernel_rfl
  i4 := by kernel_rfl
  i5 := by kernel_rfl
  i9 := by kernel_rfl
  i20 := by kernel_rfl
  i21 := by kernel_rfl
  i37 := by kernel_rfl
  i46 := by kernel_rfl
  i51 := by kernel_rfl
  i53 := by kernel_rfl
  i75 := by kernel_rfl
  i76 := by kernel_rfl
  i80 := by kernel_rfl
  i85 := by kernel_rfl
  i127 := by kernel_rfl
  i143 := by kernel_rfl
  i145 := by kernel_rfl
  i167 := by kernel_rfl
  i168 := by kernel_rfl
  i171 := by kernel_rfl
  i173 := by kernel_rfl
  i175 := by kernel_rfl
  i210 := by kernel_rfl
  i212 := by kernel_rfl
  i232 := by kernel_rfl
  i233 := by kernel_rfl
  m15 := by kernel_rfl
  m16 := by kernel_rfl
  m17 := by kernel_rfl
  m18 := by kernel_rfl
  m19 := by kernel_rfl
  c0 := by kernel_rfl
  c2 := by kernel_rfl
  c3 := by kernel_rfl
  c4 := by kernel_rfl
  c5 := by kernel_rfl
  c9 := by kernel_rfl
  c20 := by kernel_rfl
  c21 := by kernel_rfl
  c37 := by kernel_rfl
  c46 := by kernel_rfl
  c51 := by kernel_rfl
  c53 := by kernel_rfl
  c75 := by kernel_rfl
  c76 := by kernel_rfl
  c80 := by kernel_rfl
  c85 := by kernel_rfl
  c127 := by kernel_rfl
  c143 := by kernel_rfl
  c145 := by kernel_rfl
  c167 := by kernel_rfl
  c168 := by kernel_rfl
  c171 := by kernel_rfl
  c173 := by kernel_rfl
  c175 := by kernel_rfl
  c210 := by kernel_rfl
  c212 := by kernel_rfl
  c213 := by kernel_rfl
  c232 := by kernel_rfl
  c233 := by kernel_rfl
end Go.Fw
namespace Go.Fw
open Go.Proofs
variable {m m0 M : Mem} {S : List Nat} {L : List As}
/-! names that are no segments -/
theorem atoi_bad (s : Bs) (hl : s.length ≤ 18) (h : Lib.atoiAll s = Lib.NumEnd.syntax) (hG : Gk m) : MC Tryz.prog n_strconv_Atoi [.string (zb s)] m fun u M => (∃ te e, u = .tuple #[.int .i64 0, .iface te e]) ∧ Fr m M [] := by
  intro w hw
  subst hw
  obtain ⟨ev, hc, hev⟩ := hG
  have hv : w.cell? ⟨1, 0, none⟩ = some ev := by rw [← cell_abs, cell_mk]; exact hc
  refine (Any.strconv_Atoi_syntax at_lays (zb s) (by rw [zb_size]; omega) h ev w hv hev).mono fun e w' hh => ?_
  obtain ⟨N, he, _, _, hb⟩ := hh
  refine ⟨_, he, ⟨hb.os, hb.output, hb.size, hb.tape⟩, ⟨_, _, rfl⟩, fun b hn _ => hb.block b ?_⟩
  show b < w.heap.size
  rcases Nat.lt_or_ge b w.heap.size with h1 | h1
  · exact h1
  · exact absurd (Array.getElem?_eq_none h1) hn
theorem atoi_d (l : Bs) (hd : digs l) (h0 : 0 < l.length) (h1 : l.length < 10) : MC Tryz.prog n_strconv_Atoi [.string (zb l)] m fun u M => u = .tuple #[.int .i64 (dval l : Nat), .nilIface] ∧ Fr m M [] := by
  refine strconv_Atoi_go (by simp [Tryz.f33]) ?_
  have H := Hq.refl m []
  have hq := atoi0_s (m := m) l hd h0 h1
  have he : ∀ M, rd (.eqi true) [.nilIface, .nilIface] M = some (.bool false) := fun _ => rfl
  simp (disch := omega) only [go_sem, undef]
  refine callQ H hq fun M f H => ?_
  simp (disch := omega) only [go_sem, undef, he]
  exact ⟨rfl, H.fr⟩
theorem firstIdx_no (a : Bs) (c : UInt8) (h : c ∉ a) : firstIdx (zb a) c = -1 := by
  have hx : (List.range (zb a).size).find? (fun i => (zb a)[i]! == c) = none := by
    rw [List.find?_eq_none]
    intro i hi
    have hi : i < a.length := by rw [List.mem_range, zb_size] at hi; exact hi
    have := zb_get a i
    rw [getElem!_def, this, List.getElem?_eq_getElem hi]
    simp only [beq_iff_eq]
    intro e
    exact h (e ▸ List.getElem_mem hi)
  unfold firstIdx
  rw [hx]
theorem rd_ixb_no (a : Bs) (c : UInt8) (h : c ∉ a) : rd .ixb [.string (zb a), .int .u8 (c.toNat : Nat)] m = some (.int .i64 (-1)) := by
  show some (Value.int .i64 (firstIdx _ ((c.toNat : Nat) : Int).toNat.toUInt8)) = _
  rw [Int.toNat_natCast, show c.toNat.toUInt8 = c from by simp, firstIdx_no a c h]
theorem indexByte_no (a : Bs) (c : UInt8) (h : c ∉ a) : MC Tryz.prog n_internal_stringslite_IndexByte [.string (zb a), .int .u8 (c.toNat : Nat)] m fun u M => u = .int .i64 (-1) ∧ Fr m M [] := by
  refine internal_stringslite_IndexByte_go (by simp [Tryz.f33]) ?_
  simp (disch := omega) only [go_sem, undef, rd_ixb_no a c h]
  exact ⟨rfl, Fr.refl _ _⟩
theorem index_no (a : Bs) (c : UInt8) (h : c ∉ a) : MC Tryz.prog n_internal_stringslite_Index [.string (zb a), .string (zb [c])] m fun u M => u = .int .i64 (-1) ∧ Fr m M [] := by
  refine internal_stringslite_Index_go (by simp [Tryz.f33]) ?_
  have H := Hq.refl m []
  have hs : (((zb [c]).size : Nat) : Int) = 1 := rfl
  have hx : ∀ M, rd .idxs [.string (zb [c]), .int .i64 0] M = some (.int .u8 (c.toNat : Nat)) := fun M => by
    rw [rd_idxs _ _ _ (by omega), show (0 : Int).toNat = 0 from rfl, zb_get]; rfl
  have hne : ¬ zb [c] = zb a := fun e => by
    have := zb_inj.1 e
    exact h (by rw [← this]; simp)
  simp (disch := omega) only [go_sem, undef, hs, hx, dec_f (show ¬ (1 : Int) = 0 by omega), dec_f hne]
  refine callQ H (indexByte_no a c h) fun M f H => ?_
  simp (disch := omega) only [go_sem, undef]
  exact ⟨rfl, H.fr⟩
theorem cut_no (a : Bs) (c : UInt8) (h : c ∉ a) : MC Tryz.prog n_strings_Cut [.string (zb a), .string (zb [c])] m fun u M => u = .tuple #[.string (zb a), .string (zb []), .bool false] ∧ Fr m M [] := by
  have h0 : MC Tryz.prog n_internal_stringslite_Cut [.string (zb a), .string (zb [c])] m fun u M => u = .tuple #[.string (zb a), .string (zb []), .bool false] ∧ Fr m M [] := by
    refine internal_stringslite_Cut_go (by simp [Tryz.f33]) ?_
    have H := Hq.refl m []
    simp (disch := omega) only [go_sem, undef]
    refine callQ H (index_no a c h) fun M f H => ?_
    simp (disch := omega) only [go_sem, undef, dec_f (show ¬ (-1 : Int) ≥ 0 by omega)]
    exact ⟨rfl, H.fr⟩
  refine strings_Cut_go (by simp [Tryz.f33]) ?_
  have H := Hq.refl m []
  simp (disch := omega) only [go_sem, undef]
  refine callQ H h0 fun M f H => ?_
  simp (disch := omega) only [go_sem, undef]
  exact ⟨rfl, H.fr⟩
theorem trim_no (s p : Bs) (hl : p.length ≤ s.length) (hne : s.take p.length ≠ p) : MC Tryz.prog n_strings_TrimPrefix [.string (zb s), .string (zb p)] m fun u M => u = .string (zb s) ∧ Fr m M [] := by
  have hs : (((zb s).size : Nat) : Int) = (s.length : Nat) := by rw [zb_size]
  have hs2 : (((zb p).size : Nat) : Int) = (p.length : Nat) := by rw [zb_size]
  have hc : cutZ (zb s) 0 (p.length : Nat) = some (.string (zb (s.take p.length))) := by
    have := zb_cut s 0 p.length (by omega) hl
    rw [List.drop_zero] at this; exact this
  have h0 : MC Tryz.prog n_internal_stringslite_HasPrefix [.string (zb s), .string (zb p)] m fun u M => u = .bool false ∧ Fr m M [] := by
    refine internal_stringslite_HasPrefix_go (by simp [Tryz.f33]) ?_
    simp (disch := omega) only [go_sem, undef, hs, hs2, dec_t (show ((s.length : Nat) : Int) ≥ (p.length : Nat) by omega), rd_slcs01, hc, rd_str_eql, decide_eq_false (show ¬ zb (s.take p.length) = zb p from fun e => hne (zb_inj.1 e))]
    exact ⟨rfl, Fr.refl _ _⟩
  have h1 : MC Tryz.prog n_internal_stringslite_TrimPrefix [.string (zb s), .string (zb p)] m fun u M => u = .string (zb s) ∧ Fr m M [] := by
    refine internal_stringslite_TrimPrefix_go (by simp [Tryz.f33]) ?_
    have H := Hq.refl m []
    simp (disch := omega) only [go_sem, undef]
    refine callQ H h0 fun M f H => ?_
    simp (disch := omega) only [go_sem, undef]
    exact ⟨rfl, H.fr⟩
  refine strings_TrimPrefix_go (by simp [Tryz.f33]) ?_
  have H := Hq.refl m []
  simp (disch := omega) only [go_sem, undef]
  refine callQ H h1 fun M f H => ?_
  simp (disch := omega) only [go_sem, undef]
  exact ⟨rfl, H.fr⟩
/-- the names of the law -/
def names10 : List Bs := [[108, 111, 103, 46, 49, 46, 49], [108, 111, 103, 46, 49, 46, 50], [108, 111, 103, 46, 50, 46, 49], [108, 111, 103, 46, 50, 46, 50], [108, 111, 103, 46, 50, 46, 51], [108, 111, 103, 46, 49, 48, 46, 49], [108, 111, 103, 46, 48, 49, 46, 49], [108, 111, 103, 46, 51], [108, 111, 103, 46, 51, 46, 49, 120], [111, 116, 104, 101, 114]]
set_option maxHeartbeats 4000000 in
theorem placed_01 : PlOkG [108, 111, 103, 46, 48, 49, 46, 49] := fun _ m hG => by
  refine wal_placed_go (by simp [Tryz.f33]) ?_
  have H := Hq.refl m []
  simp (disch := omega) only [go_sem, undef]
  refine newQ H fun b0 M f H => ?_
  simp (disch := omega) only [go_sem, undef, log_eq, dot_eq]
  refine callQ H (trim_s [108, 111, 103, 46] [48, 49, 46, 49] (by simp)) fun M f H => ?_
  simp (disch := omega) only [go_sem, undef]
  refine callQ H (cut_s [48, 49] [49] 46 (by decide) (by simp) (by simp)) fun M f H => ?_
  simp (disch := omega) only [go_sem, undef]
  refine callQ H (atoi_d [48, 49] (by decide) (by simp) (by simp)) fun M f H => ?_
  simp (disch := omega) only [go_sem, undef]
  refine callQ H (atoi_d [49] (by decide) (by simp) (by simp)) fun M f H => ?_
  have d1 : dval [48, 49] = 1 := by decide
  have d2 : dval [49] = 1 := by decide
  have hne : ¬ zb (nmB 1 1) = zb [108, 111, 103, 46, 48, 49, 46, 49] := fun e => by have := congrArg List.length (zb_inj.1 e); revert this; decide
  simp (disch := omega) only [go_sem, undef, d1, d2]
  refine newQ H fun b1 M f H => ?_
  simp (disch := omega) only [go_sem, undef, H.cs]
  refine stwQ0 H rfl rfl fun M f H => ?_
  simp (disch := omega) only [go_sem, undef, H.cs, dec_t (show ((1 : Nat) : Int) > 0 by omega), dec_t (show ((1 : Nat) : Int) ≤ 999999999 by omega)]
  refine callQ H (name_s 1 1 (by omega) (by omega)) fun M f H => ?_
  simp (disch := omega) only [go_sem, undef, H.cs, rd_str_eql, decide_eq_false hne]
  refine stwQ1 H rfl rfl fun M f H => ?_
  simp (disch := omega) only [go_sem, undef, H.cs]
  exact ⟨⟨_, _, rfl⟩, H.fr⟩
set_option maxHeartbeats 4000000 in
theorem placed_3 : PlOkG [108, 111, 103, 46, 51] := fun _ m hG => by
  refine wal_placed_go (by simp [Tryz.f33]) ?_
  have H := Hq.refl m []
  simp (disch := omega) only [go_sem, undef]
  refine newQ H fun b0 M f H => ?_
  simp (disch := omega) only [go_sem, undef, log_eq, dot_eq]
  refine callQ H (trim_s [108, 111, 103, 46] [51] (by simp)) fun M f H => ?_
  simp (disch := omega) only [go_sem, undef]
  refine callQ H (cut_no [51] 46 (by decide)) fun M f H => ?_
  simp (disch := omega) only [go_sem, undef]
  refine callQ H (atoi_d [51] (by decide) (by simp) (by simp)) fun M f H => ?_
  simp (disch := omega) only [go_sem, undef]
  refine callR H (atoi_bad [] (by simp) (by decide) (hG.fr H.fr (by simp))) fun u M hR f H => ?_
  refine Exists.elim hR fun te hh => Exists.elim hh fun e eu => ?_
  subst eu
  simp (disch := omega) only [go_sem, undef]
  refine newQ H fun b1 M f H => ?_
  simp (disch := omega) only [go_sem, undef, H.cs]
  refine stwQ0 H rfl rfl fun M f H => ?_
  simp (disch := omega) only [go_sem, undef, H.cs]
  refine stwQ1 H rfl rfl fun M f H => ?_
  simp (disch := omega) only [go_sem, undef, H.cs]
  exact ⟨⟨_, _, rfl⟩, H.fr⟩
set_option maxHeartbeats 4000000 in
theorem placed_31x : PlOkG [108, 111, 103, 46, 51, 46, 49, 120] := fun _ m hG => by
  refine wal_placed_go (by simp [Tryz.f33]) ?_
  have H := Hq.refl m []
  simp (disch := omega) only [go_sem, undef]
  refine newQ H fun b0 M f H => ?_
  simp (disch := omega) only [go_sem, undef, log_eq, dot_eq]
  refine callQ H (trim_s [108, 111, 103, 46] [51, 46, 49, 120] (by simp)) fun M f H => ?_
  simp (disch := omega) only [go_sem, undef]
  refine callQ H (cut_s [51] [49, 120] 46 (by decide) (by simp) (by simp)) fun M f H => ?_
  simp (disch := omega) only [go_sem, undef]
  refine callQ H (atoi_d [51] (by decide) (by simp) (by simp)) fun M f H => ?_
  have d1 : dval [51] = 3 := by decide
  simp (disch := omega) only [go_sem, undef, d1]
  refine callR H (atoi_bad [49, 120] (by simp) (by decide) (hG.fr H.fr (by simp))) fun u M hR f H => ?_
  refine Exists.elim hR fun te hh => Exists.elim hh fun e eu => ?_
  subst eu
  simp (disch := omega) only [go_sem, undef]
  refine newQ H fun b1 M f H => ?_
  simp (disch := omega) only [go_sem, undef, H.cs]
  refine stwQ0 H rfl rfl fun M f H => ?_
  simp (disch := omega) only [go_sem, undef, H.cs, dec_t (show ((3 : Nat) : Int) > 0 by omega), dec_t (show ((3 : Nat) : Int) ≤ 999999999 by omega), dec_f (show ¬ (0 : Int) > 0 by omega)]
  refine stwQ1 H rfl rfl fun M f H => ?_
  simp (disch := omega) only [go_sem, undef, H.cs]
  exact ⟨⟨_, _, rfl⟩, H.fr⟩
set_option maxHeartbeats 4000000 in
theorem placed_other : PlOkG [111, 116, 104, 101, 114] := fun _ m hG => by
  refine wal_placed_go (by simp [Tryz.f33]) ?_
  have H := Hq.refl m []
  simp (disch := omega) only [go_sem, undef]
  refine newQ H fun b0 M f H => ?_
  simp (disch := omega) only [go_sem, undef, log_eq, dot_eq]
  refine callQ H (trim_no [111, 116, 104, 101, 114] [108, 111, 103, 46] (by decide) (by decide)) fun M f H => ?_
  simp (disch := omega) only [go_sem, undef]
  refine callQ H (cut_no [111, 116, 104, 101, 114] 46 (by decide)) fun M f H => ?_
  simp (disch := omega) only [go_sem, undef]
  refine callR H (atoi_bad [111, 116, 104, 101, 114] (by simp) (by decide) (hG.fr H.fr (by simp))) fun u M hR f H => ?_
  refine Exists.elim hR fun te hh => Exists.elim hh fun e eu => ?_
  subst eu
  simp (disch := omega) only [go_sem, undef]
  refine callR H (atoi_bad [] (by simp) (by decide) (hG.fr H.fr (by simp))) fun u M hR f H => ?_
  refine Exists.elim hR fun te hh => Exists.elim hh fun e eu => ?_
  subst eu
  simp (disch := omega) only [go_sem, undef]
  refine newQ H fun b1 M f H => ?_
  simp (disch := omega) only [go_sem, undef, H.cs]
  refine stwQ0 H rfl rfl fun M f H => ?_
  simp (disch := omega) only [go_sem, undef, H.cs]
  refine stwQ1 H rfl rfl fun M f H => ?_
  simp (disch := omega) only [go_sem, undef, H.cs]
  exact ⟨⟨_, _, rfl⟩, H.fr⟩
theorem nm10 : ∀ x ∈ names10, (∃ g k, 0 < g ∧ g < 100 ∧ 0 < k ∧ k < 100 ∧ x = nmB g k) ∨ (namF x = none ∧ (x = [108, 111, 103, 46, 48, 49, 46, 49] ∨ x = [108, 111, 103, 46, 51] ∨ x = [108, 111, 103, 46, 51, 46, 49, 120] ∨ x = [111, 116, 104, 101, 114])) := by
  intro x hx
  simp only [names10, List.mem_cons, List.not_mem_nil, or_false] at hx
  rcases hx with rfl | rfl | rfl | rfl | rfl | rfl | rfl | rfl | rfl | rfl
  · exact .inl ⟨1, 1, by decide⟩
  · exact .inl ⟨1, 2, by decide⟩
  · exact .inl ⟨2, 1, by decide⟩
  · exact .inl ⟨2, 2, by decide⟩
  · exact .inl ⟨2, 3, by decide⟩
  · exact .inl ⟨10, 1, by decide⟩
  · exact .inr ⟨by decide, by simp⟩
  · exact .inr ⟨by decide, by simp⟩
  · exact .inr ⟨by decide, by simp⟩
  · exact .inr ⟨by decide, by simp⟩
theorem nm10_pl : ∀ x ∈ names10, PlOkG x := fun x hx => by
  rcases nm10 x hx with ⟨g, k, h1, h2, h3, h4, e⟩ | ⟨_, e⟩
  · intro hn
    rw [e, plF_nm h1 h2 h3 h4] at hn; cases hn
  · rcases e with rfl | rfl | rfl | rfl
    · exact placed_01
    · exact placed_3
    · exact placed_31x
    · exact placed_other
theorem nm10_ok : ∀ x ∈ names10, NmOk x := fun x hx => by
  rcases nm10 x hx with ⟨g, k, h1, h2, h3, h4, e⟩ | ⟨h, _⟩
  · rw [e]; exact nmOk_nm h1 h2 h3 h4
  · exact nmOk_no h
theorem nm10_may : ∀ x ∈ names10, 0 < x.length ∧ x.length ≤ 24 ∧ ∀ c ∈ x, 33 ≤ c.toNat ∧ c.toNat ≤ 126 := by decide
theorem nm10_99 : ∀ g, g < 100 → nmB g 99 ∉ names10 := by decide +kernel
end Go.Fw
namespace Go.Fw
open Go.Proofs
variable {m m0 M : Mem} {S : List Nat} {L : List As}
variable {rb wb rb2 wb2 : Nat} {fv fv2 : Value} {rs rs2 : List Row} {D D2 : Dk}
structure OI (D : Dk) : Prop where
  ok : Okd D
  nm : ∀ x ∈ D.fl, x.name ∈ names10
  kp : ∀ x ∈ D.fl, x.kept ≤ x.b.length
  tt : tot D.fl ≤ 1048576
  qt : D.quota = 1048576
  lf : D.left = 0
theorem OI.len (h : OI D) : D.fl.length ≤ 10 := by
  have := len_sub (D.fl.map Fl.name) names10 (srt_nod h.ok.srt) fun x hx => by
    obtain ⟨y, hy, rfl⟩ := List.mem_map.1 hx
    exact h.nm y hy
  have e : names10.length = 10 := rfl
  rw [e, List.length_map] at this
  exact this
theorem OI.n99 (h : OI D) : ∀ g, g < 100 → lookF (nmB g 99) D.fl = none := fun g hg => by
  cases hl : lookF (nmB g 99) D.fl with
  | none => rfl
  | some x =>
    obtain ⟨hx, e⟩ := look_name hl
    have := h.nm x hx
    rw [e] at this
    exact absurd this (nm10_99 g hg)
theorem OI.pl (h : OI D) : ∀ x ∈ D.fl, PlOkG x.name := fun x hx => nm10_pl _ (h.nm x hx)
theorem OI.nmo (h : OI D) : ∀ x ∈ D.fl, NmOk x.name := fun x hx => nm10_ok _ (h.nm x hx)
theorem OI.nml (h : OI D) : ∀ x ∈ D.fl, x.name.length ≤ 1000000 := fun x hx => Nat.le_trans (nm10_may _ (h.nm x hx)).2.1 (by decide)
theorem OI.kb (h : OI D) : ∀ x ∈ D.fl, x.kept ≤ 1000000000 := fun x hx => Nat.le_trans (h.kp x hx) (Nat.le_trans (b_le h.ok.srt hx) (Nat.le_trans h.tt (by decide)))
theorem OI.pres {F : List Fl} (h : OI D) (p : Pres D { D with fl := F }) : OI { D with fl := F } := ⟨⟨h.ok.off, h.ok.arm, p.srt h.ok.srt⟩, fun y hy => by
  obtain ⟨x, hx, e⟩ := p.nm y hy
  rw [← e]; exact h.nm x hx, p.kp h.kp, Nat.le_trans p.tt h.tt, h.qt, h.lf⟩
theorem OI.apd (h : OI D) {nm : Bs} (hn : nm ∈ names10) (p : Bs) : OI (apdF nm p D).1 := by
  by_cases hr : D.quota < tot D.fl + p.length
  · rw [apd_full h.ok nm p hr]; exact h
  · obtain ⟨F, e, hs, hl, ht, hm⟩ := apd_up h.ok nm p (by omega)
    rw [e]
    refine ⟨⟨h.ok.off, h.ok.arm, hs⟩, fun y hy => ?_, fun y hy => ?_, ?_, h.qt, h.lf⟩
    · rcases hm y hy with h1 | ⟨x, hx, h1⟩
      · rw [h1]; exact hn
      · rw [← h1]; exact h.nm x hx
    · have hy2 := mem_look hs hy
      rw [hl] at hy2
      by_cases e2 : y.name = nm
      · rw [if_pos e2] at hy2
        have hy3 := Option.some.inj hy2
        rw [← hy3]
        cases hx : lookF nm D.fl with
        | none => simp
        | some x =>
          have := h.kp x (look_name hx).1
          simp [rdB]; omega
      · rw [if_neg e2] at hy2
        exact h.kp y (look_name hy2).1
    · have := h.qt
      show tot F ≤ _
      rw [ht]; omega
theorem open_oi (hG : Gk m) (h1 : 1 ∉ (dkA rb fv rs D).wp) (h : (dkA rb fv rs D).p m) (hD : OI D) : CM Tryz.prog n_wal_Open [lpD rb] m (dkA rb fv rs D) (OpR rb (opF D)) :=
  openG_s hG h1 h hD.pl hD.n99 (by have := hD.len; omega) (by have := hD.tt; omega) (by rw [hD.lf]; exact Nat.zero_le _) hD.kb
theorem ropen_oi (h : (rkA rb fv rs D).p m) (hD : OI D) : CM Tryz.prog n_ref8_Open [lpD rb] m (rkA rb fv rs D) (ROpR rb (opF D)) :=
  ropen_s h hD.nmo hD.nml hD.ok.srt hD.n99 (by have := hD.len; omega) (by have := hD.tt; omega) (by rw [hD.lf]; exact Nat.zero_le _) hD.kb
theorem frO_len (p : Bs) : (frO p).length ≤ p.length + 6 := by
  unfold frO; split
  · rw [frB_len]; exact Nat.le_refl _
  · simp
theorem sub_len (l : List Bs) (p : Bs) (h : p ∈ l) : p.length ≤ l.flatten.length := List.Sublist.length_le (List.sublist_flatten_of_mem h)
end Go.Fw
namespace Go.Fw
open Go.Proofs
variable {m m0 M : Mem} {S : List Nat} {L : List As}
variable {rb wb rb2 wb2 : Nat} {fv fv2 : Value} {rs rs2 : List Row} {D D2 : Dk}
abbrev opL : NC := .seq law10_WalOpens_r18 law10_WalOpens_r19
abbrev opM : NC := .seq (.seq law10_WalOpens_r16 (.cond (.slot 106) law10_WalOpens_r17 .skip)) opL
abbrev opT : NC := .seq (.seq law10_WalOpens_r12 (.block 2 (.loop [0, 1, 2, 7, 9, 11, 12, 13, 14, 15] law10_WalOpens_l0))) opM
def OpS (m0 M : Mem) (rb rb2 : Nat) (sl : Value) : Prop := ∃ D fv rs fv2 rs2, OI D ∧ Hq m0 M [] [dkA rb fv rs D, rkA rb2 fv2 rs2 D, nsA sl names10]
theorem OpS.E {G : Prop} {sl : Value} (h : OpS m M rb rb2 sl) (k : ∀ D fv rs fv2 rs2, OI D → Hq m M [] [dkA rb fv rs D, rkA rb2 fv2 rs2 D, nsA sl names10] → G) : G := by
  obtain ⟨D, fv, rs, fv2, rs2, h1, h2⟩ := h
  exact k D fv rs fv2 rs2 h1 h2
set_option maxHeartbeats 8000000 in
theorem opens_last {E : Env} {Q : Exit → Env → Mem → Prop} {lv nv xv sl w : Value} {i : Nat} {acc x : Bs} (hD : OI D) (hacc : acc.length ≤ 60000) (hx : x ∈ names10)
    (H : Hq m M [] [byA T_uint8 w acc, dkA rb fv rs D, rkA rb2 fv2 rs2 D, nsA sl names10])
    (e0 : E.get 0 = lv) (e1 : E.get 1 = nv) (e2 : E.get 2 = xv) (e7 : E.get 7 = lpD rb) (e9 : E.get 9 = lpD rb2) (e11 : E.get 11 = sl) (e12 : E.get 12 = .int .i64 (i : Nat)) (e13 : E.get 13 = .string (zb x)) (e14 : E.get 14 = w)
    (h0 : E.has 0 = true) (h1 : E.has 1 = true) (h2 : E.has 2 = true) (h7 : E.has 7 = true) (h9 : E.has 9 = true) (h11 : E.has 11 = true) (h12 : E.has 12 = true) (h13 : E.has 13 = true) (h14 : E.has 14 = true)
    (K : ∀ M E', E'.get 0 = lv → E'.get 1 = nv → E'.get 2 = xv → E'.get 7 = lpD rb → E'.get 9 = lpD rb2 → E'.get 11 = sl → E'.get 12 = .int .i64 (i : Nat) → E'.has 0 = true → E'.has 1 = true → E'.has 2 = true → E'.has 7 = true → E'.has 9 = true → E'.has 11 = true → E'.has 12 = true → OpS m M rb rb2 sl → Q .normal E' M) :
    wpN Tryz.prog opL Q E M := by
  have hln := hD.len
  have htt := hD.tt
  have hq := hD.qt
  have hlf := hD.lf
  have hap := (List.pairwise_cons.1 H.dj).1 (dkA rb fv rs D) (by simp)
  have hap2 := (List.pairwise_cons.1 H.dj).1 (rkA rb2 fv2 rs2 D) (by simp)
  have hth := fun b hb => (byA T_uint8 w acc).th (H.at 0 rfl) b hb
  simp (disch := omega) only [go_sem, undef, e0, e1, e2, e7, e9, e11, e12, e13, e14, h0, h1, h2, h7, h9, h11, h12, h13, h14]
  refine callA1 H (append_s (H.at 1 rfl) x acc (byA_rd (H.at 0 rfl)) (fun b hb => ⟨fun h => hap.2 b h hb, hth b hb⟩) (by omega) (nm10_may x hx) (by omega) (by omega) (by omega) (by omega)) fun u M A' hR f H => ?_
  refine hR.E fun fv3 rs3 eu eA => ?_
  subst eu eA
  have hth := fun b hb => (byA T_uint8 w acc).th (H.at 0 rfl) b hb
  simp (disch := omega) only [go_sem, undef, e0, e1, e2, e7, e9, e11, e12, e13, e14, h0, h1, h2, h7, h9, h11, h12, h13, h14]
  refine callA2 H (rappend_s (H.at 2 rfl) x acc (byA_rd (H.at 0 rfl)) (fun b hb => ⟨fun h => hap2.2 b h hb, hth b hb⟩) (by omega) (nm10_may x hx) (by omega) (by omega) (by omega) (by omega)) fun u M A' hR f H => ?_
  refine hR.E fun fv4 rs4 eu eA => ?_
  subst eu eA
  simp (disch := omega) only [go_sem, undef, e0, e1, e2, e7, e9, e11, e12, e13, e14, h0, h1, h2, h7, h9, h11, h12, h13, h14]
  exact K _ _ rfl rfl rfl rfl rfl rfl rfl rfl rfl rfl rfl rfl rfl rfl ⟨_, _, _, _, _, hD.apd hx acc, H.tail⟩
set_option maxHeartbeats 8000000 in
theorem opens_mid {E : Env} {Q : Exit → Env → Mem → Prop} {lv nv sl w : Value} {xa : Option Addr} {xc : Nat} {xvs : List Value} {xl : List Bs} {i : Nat} {acc x : Bs} (hD : OI D) (hacc : acc.length ≤ 40000) (hx : x ∈ names10)
    (hxv : RdS 1 v1 m (.slice xa xvs.length xc) xvs) (hxF : F2 (fun v l => RdB m v l) xvs xl) (hxl : xl.flatten.length ≤ 9000) (hxn : xvs.length ≤ 9000)
    (H : Hq m M [] [byA T_uint8 w acc, dkA rb fv rs D, rkA rb2 fv2 rs2 D, nsA sl names10])
    (e0 : E.get 0 = lv) (e1 : E.get 1 = nv) (e2 : E.get 2 = .slice xa xvs.length xc) (e7 : E.get 7 = lpD rb) (e9 : E.get 9 = lpD rb2) (e11 : E.get 11 = sl) (e12 : E.get 12 = .int .i64 (i : Nat)) (e13 : E.get 13 = .string (zb x)) (e14 : E.get 14 = w)
    (h0 : E.has 0 = true) (h1 : E.has 1 = true) (h2 : E.has 2 = true) (h7 : E.has 7 = true) (h9 : E.has 9 = true) (h11 : E.has 11 = true) (h12 : E.has 12 = true) (h13 : E.has 13 = true) (h14 : E.has 14 = true)
    (K : ∀ M E', E'.get 0 = lv → E'.get 1 = nv → E'.get 2 = .slice xa xvs.length xc → E'.get 7 = lpD rb → E'.get 9 = lpD rb2 → E'.get 11 = sl → E'.get 12 = .int .i64 (i : Nat) → E'.has 0 = true → E'.has 1 = true → E'.has 2 = true → E'.has 7 = true → E'.has 9 = true → E'.has 11 = true → E'.has 12 = true → OpS m M rb rb2 sl → Q .normal E' M) :
    wpN Tryz.prog opM Q E M := by
  show wpN Tryz.prog (.seq (.seq law10_WalOpens_r16 (.cond (.slot 106) law10_WalOpens_r17 .skip)) opL) Q E M
  generalize hC : opL = C
  by_cases hlt : i < xvs.length
  · refine F2_at hxF hlt fun r y hr1 hy hR => ?_
    refine RdS.elK (hxv.frame H.fr) hlt (by decide) fun bx o r' hr' hix hE => ?_
    rw [hr1] at hr'
    cases hr'
    have hyl := sub_len xl y (List.mem_of_getElem? hy)
    have hR := hR.frame H.fr
    refine Exists.elim hR.form fun a3 hh => Exists.elim hh fun c3 ev => ?_
    subst ev
    simp (disch := omega) only [go_sem, undef, e0, e1, e2, e7, e9, e11, e12, e13, e14, h0, h1, h2, h7, h9, h11, h12, h13, h14, dec_t (show ((i : Nat) : Int) < (xvs.length : Nat) by omega), hix, hE.ld0]
    refine appQ0 H (k := y.length) rfl (ldS_of hR) (by rw [bys_len]; omega) (bys_one y) rfl (by omega) (by omega) fun w4 M2 f4 H => ?_
    have H : Hq m M2 [] [byA T_uint8 w4 (acc ++ y), dkA rb fv rs D, rkA rb2 fv2 rs2 D, nsA sl names10] := by
      rw [← byA_app (l := acc)]; exact H
    simp (disch := omega) only [go_sem, undef, e0, e1, e2, e7, e9, e11, e12, e13, e14, h0, h1, h2, h7, h9, h11, h12, h13, h14]
    subst hC
    exact opens_last (acc := acc ++ y) hD (by rw [List.length_append]; omega) hx H rfl rfl rfl rfl rfl rfl rfl rfl rfl rfl rfl rfl rfl rfl rfl rfl rfl rfl K
  · simp (disch := omega) only [go_sem, undef, e0, e1, e2, e7, e9, e11, e12, e13, e14, h0, h1, h2, h7, h9, h11, h12, h13, h14, dec_f (show ¬ ((i : Nat) : Int) < (xvs.length : Nat) by omega)]
    subst hC
    exact opens_last hD (by omega) hx H rfl rfl rfl rfl rfl rfl rfl rfl rfl rfl rfl rfl rfl rfl rfl rfl rfl rfl K
set_option maxHeartbeats 8000000 in
theorem opens_recs {E : Env} {Q : Exit → Env → Mem → Prop} {nv sl w : Value} {xa la : Option Addr} {xc lc : Nat} {xvs lvs : List Value} {xl ll : List Bs} {i : Nat} {acc x : Bs} (hD : OI D) (hacc : acc.length ≤ 40) (hx : x ∈ names10)
    (hlv : RdS 1 v1 m (.slice la lvs.length lc) lvs) (hlF : F2 (fun v l => RdB m v l) lvs ll) (hll : ll.flatten.length ≤ 9000) (hln : lvs.length ≤ 9000)
    (hxv : RdS 1 v1 m (.slice xa xvs.length xc) xvs) (hxF : F2 (fun v l => RdB m v l) xvs xl) (hxl : xl.flatten.length ≤ 9000) (hxn : xvs.length ≤ 9000)
    (H : Hq m M [] [byA T_uint8 w acc, dkA rb fv rs D, rkA rb2 fv2 rs2 D, nsA sl names10])
    (e0 : E.get 0 = .slice la lvs.length lc) (e1 : E.get 1 = nv) (e2 : E.get 2 = .slice xa xvs.length xc) (e7 : E.get 7 = lpD rb) (e9 : E.get 9 = lpD rb2) (e11 : E.get 11 = sl) (e12 : E.get 12 = .int .i64 (i : Nat)) (e13 : E.get 13 = .string (zb x)) (e14 : E.get 14 = w)
    (h0 : E.has 0 = true) (h1 : E.has 1 = true) (h2 : E.has 2 = true) (h7 : E.has 7 = true) (h9 : E.has 9 = true) (h11 : E.has 11 = true) (h12 : E.has 12 = true) (h13 : E.has 13 = true) (h14 : E.has 14 = true)
    (K : ∀ M E', E'.get 0 = .slice la lvs.length lc → E'.get 1 = nv → E'.get 2 = .slice xa xvs.length xc → E'.get 7 = lpD rb → E'.get 9 = lpD rb2 → E'.get 11 = sl → E'.get 12 = .int .i64 (i : Nat) → E'.has 0 = true → E'.has 1 = true → E'.has 2 = true → E'.has 7 = true → E'.has 9 = true → E'.has 11 = true → E'.has 12 = true → OpS m M rb rb2 sl → Q .normal E' M) :
    wpN Tryz.prog opT Q E M := by
  show wpN Tryz.prog (.seq (.seq law10_WalOpens_r12 (.block 2 (.loop [0, 1, 2, 7, 9, 11, 12, 13, 14, 15] law10_WalOpens_l0))) opM) Q E M
  generalize hC : opM = C
  simp (disch := omega) only [go_sem, undef, e0, e1, e2, e7, e9, e11, e12, e13, e14, h0, h1, h2, h7, h9, h11, h12, h13, h14]
  refine loopQ_intro (fun n E m' => ∃ j w acc, j ≤ lvs.length ∧ j ≤ 3 ∧ n = 3 - j ∧ acc.length ≤ 40 + j * 9010 ∧ E = [(0, .slice la lvs.length lc), (1, nv), (2, .slice xa xvs.length xc), (7, lpD rb), (9, lpD rb2), (11, sl), (12, .int .i64 (i : Nat)), (13, .string (zb x)), (14, w), (15, .int .i64 (j : Nat))] ∧ Hq m m' [] [byA T_uint8 w acc, dkA rb fv rs D, rkA rb2 fv2 rs2 D, nsA sl names10]) 3 rfl ⟨0, _, _, by omega, by omega, by omega, by omega, rfl, H⟩ ?_
  clear H hacc acc w e14
  rintro n E M1 ⟨j, w, acc, hj, hj3, rfl, hacc, rfl, H⟩
  by_cases hlt : j < lvs.length
  · by_cases hlt3 : j < 3
    · refine F2_at hlF hlt fun r y hr1 hy hR => ?_
      refine RdS.elK (hlv.frame H.fr) hlt (by decide) fun bx o r' hr' hix hE => ?_
      rw [hr1] at hr'
      cases hr'
      have hyl := sub_len ll y (List.mem_of_getElem? hy)
      have hfl := frO_len y
      have hR := hR.frame H.fr
      simp (disch := omega) only [go_sem, undef, dec_t (show ((j : Nat) : Int) < (lvs.length : Nat) by omega), dec_t (show ((j : Nat) : Int) < 3 by omega), hix, hE.ld0]
      refine callN H (ref8_Frame_s (byA_rd (H.at 0 rfl)) hR (by omega) (by omega)) fun u M A' eA f2 H => ?_
      subst eA
      simp (disch := omega) only [go_sem, undef]
      exact handN_intro (3 - (j + 1)) (by omega) ⟨j + 1, u, _, by omega, by omega, rfl, (by rw [List.length_append]; omega), rfl, H.drop 1⟩
    · simp (disch := omega) only [go_sem, undef, dec_t (show ((j : Nat) : Int) < (lvs.length : Nat) by omega), dec_f (show ¬ ((j : Nat) : Int) < 3 by omega)]
      subst hC
      exact opens_mid hD (by omega) hx hxv hxF hxl hxn H rfl rfl rfl rfl rfl rfl rfl rfl rfl rfl rfl rfl rfl rfl rfl rfl rfl rfl K
  · simp (disch := omega) only [go_sem, undef, dec_f (show ¬ ((j : Nat) : Int) < (lvs.length : Nat) by omega)]
    subst hC
    exact opens_mid hD (by omega) hx hxv hxF hxl hxn H rfl rfl rfl rfl rfl rfl rfl rfl rfl rfl rfl rfl rfl rfl rfl rfl rfl rfl K
end Go.Fw
namespace Go.Fw
open Go.Proofs
variable {m m0 M : Mem} {S : List Nat} {L : List As}
variable {rb wb rb2 wb2 : Nat} {fv fv2 : Value} {rs rs2 : List Row} {D D2 : Dk}
abbrev opZ : NC := .seq law10_WalOpens_r21 (.seq law10_WalOpens_r22 (.seq (.seq law10_WalOpens_r23 (.cond (.slot 155) (.seq law10_WalOpens_r24 .ret) .skip)) (.seq law10_WalOpens_r25 (.seq law10_WalOpens_r26 .ret))))
set_option maxHeartbeats 16000000 in
theorem opens_end {E : Env} {sl : Value} (hG : Gk m) (h : OpS m M rb rb2 sl) (e7 : E.get 7 = lpD rb) (e9 : E.get 9 = lpD rb2) (h7 : E.has 7 = true) (h9 : E.has 9 = true) :
    wpN Tryz.prog opZ (retP [.slot 6] fun u M => u = .bool true ∧ Fr m M []) E M := by
  refine h.E fun D fv rs fv2 rs2 hD H => ?_
  have H := H.drop 2
  refine Exists.elim (opF_two hD.ok hD.n99) fun W hh => Exists.elim hh fun l hh => Exists.elim hh fun F hh => ?_
  have e1 := hh.1
  have hsF := hh.2.1
  refine Exists.elim hh.2.2 fun W2 hh2 => Exists.elim hh2 fun F2 hh3 => ?_
  have e2 := hh3.1
  have hnb : ({ D with fl := F2 } : Dk).fl.map nb = ({ D with fl := F } : Dk).fl.map nb := hh3.2
  clear hh hh2 hh3
  have hp1 := pres_op D
  rw [e1] at hp1
  have hD2 : OI { D with fl := F } := hD.pres hp1
  have hp2 := pres_op { D with fl := F }
  rw [e2] at hp2
  have hD3 : OI { D with fl := F2 } := hD2.pres (F := F2) hp2
  have hrc := opF_recs (D := D) hD.tt
  rw [e1] at hrc
  have hrl : ∀ p ∈ l, p.length ≤ 1000000000 := fun p hp => Nat.le_trans (hrc.1 p hp) (by decide)
  have hrn : l.length ≤ 99 * 1048576 := hrc.2
  have hop := fun M fv rs (hg : Gk M) (h1 : 1 ∉ (dkA rb fv rs D).wp) (h : (dkA rb fv rs D).p M) => open_oi hg h1 h hD
  have hopr := fun M fv rs (h : (rkA rb2 fv rs D).p M) => ropen_oi h hD
  have hop2 := fun M fv rs (hg : Gk M) (h1 : 1 ∉ (dkA rb fv rs { D with fl := F }).wp) (h : (dkA rb fv rs { D with fl := F }).p M) => open_oi hg h1 h hD2
  rw [e1] at hop hopr
  rw [e2] at hop2
  have hln2 := hD2.len
  have htt2 := hD2.tt
  have hln3 := hD3.len
  have htt3 := hD3.tt
  have hs3 := hD3.ok.srt
  have hs2 := hD2.ok.srt
  clear hp1 hp2 e1 e2 hD hD2 hD3
  generalize ({ D with fl := F } : Dk) = D1 at *
  generalize ({ D with fl := F2 } : Dk) = D3 at *
  simp (disch := omega) only [go_sem, undef, e7, e9, h7, h9]
  refine callA0 H (hop _ _ _ (hG.fr H.fr (by simp)) (hG.nin H (by simp) (by simp)) (H.at 0 rfl)) fun u M A' hR f H => ?_
  refine OpR.someE hR rfl fun wb3 w3 vs3 fv3 rs3 eu eA => ?_
  subst eu eA
  have H := H.split
  simp (disch := omega) only [go_sem, undef, e7, e9, h7, h9]
  refine callA2 H (hopr _ _ _ (H.at 2 rfl)) fun u M A' hR f H => ?_
  refine ROpR.someE hR rfl fun wb4 w4 vs4 fv4 rs4 eu eA => ?_
  subst eu eA
  have H : Hq m M [] [rbA w4 vs4 l, rwA wb4 rb2 fv4 rs4 W D1, rbA w3 vs3 l, wlA wb3 rb fv3 rs3 W D1] := Hq.split (H.rot3' : Hq m M [] [starA (rbA w4 vs4 l) (rwA wb4 rb2 fv4 rs4 W D1), rbA w3 vs3 l, wlA wb3 rb fv3 rs3 W D1])
  have hp3 := H.at 2 rfl
  have hp4 := H.at 0 rfl
  have hl3 := F2_len hp3.2
  have hl4 := F2_len hp4.2
  simp (disch := omega) only [go_sem, undef, np_f, dec_f (show ¬ (0 : Int) ≠ 0 by simp)]
  refine callQ H (lists_s hp3.1.1 (F2_imp hp3.2 fun _ _ _ h => h.1) hp4.1.1 (F2_imp hp4.2 fun _ _ _ h => h.1) hrl hrl (by omega) (by omega)) fun M f H => ?_
  simp (disch := omega) only [go_sem, undef, decide_eq_true (rfl : l = l), Bool.not_true]
  refine callQ H (alike_s (H.at 3 rfl).2.1 (H.at 1 rfl).2.1 hs2 hs2 rfl (by omega) (by omega) (by omega)) fun M f H => ?_
  simp (disch := omega) only [go_sem, undef, np_f, Bool.not_true]
  have H : Hq m M [] [wlA wb3 rb fv3 rs3 W D1, rbA w4 vs4 l, rwA wb4 rb2 fv4 rs4 W D1] := (Hq.drop H 2).rot3'
  have H : Hq m M [] [dkA rb fv3 rs3 D1, rbA w4 vs4 l, rwA wb4 rb2 fv4 rs4 W D1] := (Hq.split (A := wcA wb3 rb W) H).tail
  refine callA0 H (hop2 _ _ _ (hG.fr H.fr (by simp)) (hG.nin H (by simp) (by simp)) (H.at 0 rfl)) fun u M A' hR f H => ?_
  refine OpR.someE hR rfl fun wb5 w5 vs5 fv5 rs5 eu eA => ?_
  subst eu eA
  have H : Hq m M [] [rbA w5 vs5 l, wlA wb5 rb fv5 rs5 W2 D3, rbA w4 vs4 l, rwA wb4 rb2 fv4 rs4 W D1] := H.split
  have hp3 := H.at 0 rfl
  have hp4 := H.at 2 rfl
  have hl3 := F2_len hp3.2
  have hl4 := F2_len hp4.2
  simp (disch := omega) only [go_sem, undef, dec_t (show (0 : Int) = 0 by rfl)]
  refine callQ H (lists_s hp3.1.1 (F2_imp hp3.2 fun _ _ _ h => h.1) hp4.1.1 (F2_imp hp4.2 fun _ _ _ h => h.1) hrl hrl (by omega) (by omega)) fun M f H => ?_
  simp (disch := omega) only [go_sem, undef, decide_eq_true (rfl : l = l)]
  refine callQ H (alike_s (H.at 1 rfl).2.1 (H.at 3 rfl).2.1 hs3 hs2 hnb (by omega) (by omega) (by omega)) fun M f H => ?_
  simp (disch := omega) only [go_sem, undef]
  refine callQ H walRuns_s fun M f H => ?_
  simp (disch := omega) only [go_sem, undef]
  exact ⟨rfl, H.fr⟩
end Go.Fw
namespace Go.Fw
open Go.Proofs
variable {m m0 M : Mem} {S : List Nat} {L : List As}
variable {rb wb rb2 wb2 : Nat} {fv fv2 : Value} {rs rs2 : List Row} {D D2 : Dk}
theorem opens_l1 : law10_WalOpens_l1 = .seq (.seq law10_WalOpens_r7 (.cond (.slot 60) .skip (.exit 0))) (.seq (.block 1 (.seq law10_WalOpens_r8 (.seq law10_WalOpens_r9 (.seq (.seq law10_WalOpens_r10 (.cond (.slot 79) law10_WalOpens_r11 .skip)) opT)))) law10_WalOpens_r20) := rfl
theorem opens_code : law10_WalOpens_c = .seq law10_WalOpens_r0 (.seq law10_WalOpens_r1 (.seq law10_WalOpens_r2 (.seq (.seq law10_WalOpens_r3 (.cond (.slot 46) (.seq law10_WalOpens_r4 .ret) .skip)) (.seq law10_WalOpens_r5 (.seq (.seq law10_WalOpens_r6 (.block 0 (.loop [0, 1, 2, 7, 9, 11, 12] law10_WalOpens_l1))) opZ))))) := rfl
theorem last_at (x : Bs) (h : 0 < x.length) : ∃ c, x[x.length - 1]? = some c := ⟨_, List.getElem?_eq_getElem (by omega)⟩
theorem rd_last (x : Bs) (c : UInt8) (h : 0 < x.length) (hc : x[x.length - 1]? = some c) (M : Mem) : rd .idxs [.string (zb x), .int .i64 ((x.length : Nat) - 1)] M = some (.int .u8 c.toNat) := by
  rw [rd_idxs _ _ _ (by omega), show (((x.length : Nat) : Int) - 1).toNat = x.length - 1 by omega, zb_get, hc]; rfl
set_option maxHeartbeats 16000000 in
theorem walOpens_s {lv nv xv : Value} {lvs xvs : List Value} {ll xl : List Bs} {ns : List Int} (hG : Gk m)
    (hlv : RdS 1 v1 m lv lvs) (hlF : F2 (fun v l => RdB m v l) lvs ll) (hlvl : lvs.length ≤ 9223372036854775807) (hlll : ∀ l ∈ ll, l.length ≤ 140737488355328)
    (hnv : RdS 1 ic m nv ns) (hns : ∀ x ∈ ns, R64i x) (hnl : ns.length ≤ 9223372036854775807)
    (hxv : RdS 1 v1 m xv xvs) (hxF : F2 (fun v l => RdB m v l) xvs xl) (hxvl : xvs.length ≤ 9223372036854775807) (hxll : ∀ l ∈ xl, l.length ≤ 140737488355328) :
    MC Tryz.prog n_law10_WalOpens [lv, nv, xv] m fun u M => u = .bool true ∧ Fr m M [] := by
  obtain ⟨la, lc, rfl⟩ := hlv.form
  obtain ⟨na, nc, rfl⟩ := hnv.form
  obtain ⟨xa, xc, rfl⟩ := hxv.form
  refine law10_WalOpens_go (by simp [Tryz.f33]) ?_
  rw [opens_code, opens_l1]
  generalize hT : opT = T
  generalize hZ : opZ = Z
  have H := Hq.refl m []
  have h10 : R64i 0 := by constructor <;> decide
  have hnil : ∀ M, RdS 1 ic M (.slice none 0 0) [] := fun M => RdS.nil (k := 1) (enc := ic) (fun _ => rfl) M
  have hak : ∀ M, Fr m M [] → AkOk M ⟨0, 0, .slice la lvs.length lc, .slice none 0 0, lvs, ll, []⟩ := fun M f => ⟨h10, h10, hlv.frame f, F2_imp hlF fun _ _ _ h => h.frame f, hlvl, hlll, hnil M, by simp, by simp⟩
  have hak2 : ∀ M, Fr m M [] → AkOk M ⟨0, 0, .slice xa xvs.length xc, .slice none 0 0, xvs, xl, []⟩ := fun M f => ⟨h10, h10, hxv.frame f, F2_imp hxF fun _ _ _ h => h.frame f, hxvl, hxll, hnil M, by simp, by simp⟩
  simp (disch := omega) only [go_sem, undef]
  refine callN H (disk_New_s 1048576 (by decide)) fun u M A' hR f H => ?_
  refine Exists.elim hR fun rb hh => ?_
  have eu := hh.1
  have eA := hh.2
  subst eu eA
  clear hh hR
  simp (disch := omega) only [go_sem, undef]
  refine callN H (rnew_s 1048576 (by decide)) fun u M A' hR f H => ?_
  refine Exists.elim hR fun rb2 hh => ?_
  have eu := hh.1
  have eA := hh.2
  subst eu eA
  clear hh hR
  have H := H.perm (List.Perm.swap ..)
  simp (disch := omega) only [go_sem, undef, np_f]
  refine callR H (light_s (hak M H.fr)) fun u M hR f H => ?_
  refine Exists.elim hR fun bb hh => ?_
  have eu := hh.1
  have hl3 := hh.2
  subst eu
  clear hh hR
  cases bb with
  | false =>
    simp (disch := omega) only [go_sem, undef, Bool.not_false, np_t]
    refine callQ H walRuns_s fun M f H => ?_
    simp (disch := omega) only [go_sem, undef]
    exact ⟨rfl, H.fr⟩
  | true =>
    have hl7 := hl3 rfl
    have hl4 : lvs.length ≤ 9000 := hl7.1
    have hl5 : ll.flatten.length ≤ 9000 := hl7.2.1
    clear hl3 hl7
    simp (disch := omega) only [go_sem, undef, Bool.not_true]
    refine callR H (light_s (hak2 M H.fr)) fun u M hR f H => ?_
    refine Exists.elim hR fun bb hh => ?_
    have eu := hh.1
    have hl3 := hh.2
    subst eu
    clear hh hR
    cases bb with
    | false =>
      simp (disch := omega) only [go_sem, undef, Bool.not_false, np_t]
      refine callQ H walRuns_s fun M f H => ?_
      simp (disch := omega) only [go_sem, undef]
      exact ⟨rfl, H.fr⟩
    | true =>
      have hl7 := hl3 rfl
      have hl4' : xvs.length ≤ 9000 := hl7.1
      have hl5' : xl.flatten.length ≤ 9000 := hl7.2.1
      clear hl3 hl7
      simp (disch := omega) only [go_sem, undef, Bool.not_true]
      refine newQ H fun b M f H => ?_
      have H := H.toRow 1 10 10 rfl (by omega)
      have H : Hq m M [] [nsA (.slice (some ⟨b, 0, none⟩) 10 10) names10, dkA rb (Value.slice none 0 0) [] ⟨1048576, [], false, false, 0⟩, rkA rb2 (Value.slice none 0 0) [] ⟨1048576, [], false, false, 0⟩] := H
      have hP0 : OI ⟨1048576, [], false, false, 0⟩ := ⟨⟨rfl, rfl, List.Pairwise.nil⟩, by simp, by simp, by simp [tot], rfl, rfl⟩
      have hS : OpS m M rb rb2 (.slice (some ⟨b, 0, none⟩) 10 10) := ⟨_, _, _, _, _, hP0, H.rot3'.rot3'⟩
      simp (disch := omega) only [go_sem, undef]
      refine loopQ_intro (fun k E m' => ∃ i : Nat, i ≤ ns.length ∧ i ≤ 8 ∧ k = 8 - i ∧ E = [(0, .slice la lvs.length lc), (1, .slice na ns.length nc), (2, .slice xa xvs.length xc), (7, lpD rb), (9, lpD rb2), (11, .slice (some ⟨b, 0, none⟩) 10 10), (12, .int .i64 (i : Nat))] ∧ OpS m m' rb rb2 (.slice (some ⟨b, 0, none⟩) 10 10)) 8 rfl ⟨0, by omega, by omega, by omega, rfl, hS⟩ ?_
      clear H hP0 hS f
      rintro k E M1 ⟨i, hi1, hi2, rfl, rfl, hS⟩
      by_cases hend : i < ns.length ∧ i < 8
      rotate_left
      · by_cases h1 : i < ns.length
        · simp (disch := omega) only [go_sem, undef, dec_t (show ((i : Nat) : Int) < (ns.length : Nat) by omega), dec_f (show ¬ ((i : Nat) : Int) < 8 by omega)]
          subst hZ
          exact opens_end hG hS rfl rfl rfl rfl
        · simp (disch := omega) only [go_sem, undef, dec_f (show ¬ ((i : Nat) : Int) < (ns.length : Nat) by omega)]
          subst hZ
          exact opens_end hG hS rfl rfl rfl rfl
      have h1 := hend.1
      have h2 := hend.2
      refine hS.E fun D fv rs fv2 rs2 hD H => ?_
      clear hS hend
      refine RdS.elK (hnv.frame H.fr) h1 (by decide) fun bx o n hn hix hE => ?_
      have hx0 : (ic n)[0]? = some (.int .i64 n) := rfl
      have hR := hns n (List.mem_of_getElem? hn)
      simp (disch := omega) only [go_sem, undef, dec_t (show ((i : Nat) : Int) < (ns.length : Nat) by omega), dec_t (show ((i : Nat) : Int) < 8 by omega), hix, hE.ld0, hx0]
      refine callR H (within_s n 0 9 (by omega) hR (by omega) (by omega)) fun u M hr f H => ?_
      have hE := hE.frame f
      refine Exists.elim hr fun r hh => ?_
      have eu := hh.1
      have hr1 := hh.2.1
      have hr2 := hh.2.2
      subst eu
      clear hh hr
      refine Exists.elim (⟨r.toNat, by omega⟩ : ∃ j : Nat, r = (j : Int)) fun j hj => ?_
      subst hj
      refine RdS.elK (l := names10) (a := some ⟨b, 0, none⟩) (c := 10) (Own.rds (k := 1) (enc := nmE) (by decide) nmE_len (H.at 2 rfl)) (show j < names10.length from (by omega : j < 10)) (by decide) fun bx2 o2 x hx hix2 hE2 => ?_
      have hix2 : IxAt 1 (.slice (some ⟨b, 0, none⟩) 10 10) j bx2 o2 := hix2
      have hxm := List.mem_of_getElem? hx
      have hmay := nm10_may x hxm
      have hnm0 : (nmE x)[0]? = some (.string (zb x)) := rfl
      have hzs : (((zb x).size : Nat) : Int) = (x.length : Nat) := by rw [zb_size]
      refine Exists.elim (last_at x hmay.1) fun c hc => ?_
      have hlast := rd_last x c hmay.1 hc
      by_cases hc1 : ((c.toNat : Nat) : Int) = 49
      · simp (disch := omega) only [go_sem, undef, hix2, hE2.ld0, hnm0, hzs, hlast, dec_t hc1, hix, hE.ld0, hx0]
        refine callR H (within_s n 0 2 (by omega) hR (by omega) (by omega)) fun u M hr f H => ?_
        refine Exists.elim hr fun r hh => ?_
        have eu := hh.1
        have hr3 := hh.2.1
        have hr4 := hh.2.2
        subst eu
        clear hh hr
        have hnl := numB_len r
        simp (disch := omega) only [go_sem, undef]
        refine callN H (ref1_Num_w bytes_nil (by simp) r (by omega)) fun u M A' eA f2 H => ?_
        subst eA
        rw [List.nil_append] at H
        have hfl := frO_len (numB r)
        simp (disch := omega) only [go_sem, undef]
        refine callN H (ref8_Frame_s bytes_nil (byA_rd (H.at 0 rfl)) (by simp) (by omega)) fun u M A' eA f2 H => ?_
        subst eA
        rw [List.nil_append] at H
        have H := H.drop 1
        simp (disch := omega) only [go_sem, undef]
        subst hT
        exact opens_recs (acc := frO (numB r)) hD (by omega) hxm hlv hlF hl5 hl4 hxv hxF hl5' hl4' H rfl rfl rfl rfl rfl rfl rfl rfl rfl rfl rfl rfl rfl rfl rfl rfl rfl rfl fun M E' g0 g1 g2 g7 g9 g11 g12 k0 k1 k2 k7 k9 k11 k12 hS => by
          simp (disch := omega) only [go_sem, undef, g0, g1, g2, g7, g9, g11, g12, k0, k1, k2, k7, k9, k11, k12]
          exact handN_intro (8 - (i + 1)) (by omega) ⟨i + 1, by omega, by omega, rfl, rfl, hS⟩
      · simp (disch := omega) only [go_sem, undef, hix2, hE2.ld0, hnm0, hzs, hlast, dec_f hc1]
        have H := H.nilRow T_uint8 1
        subst hT
        exact opens_recs (acc := []) hD (by simp) hxm hlv hlF hl5 hl4 hxv hxF hl5' hl4' H rfl rfl rfl rfl rfl rfl rfl rfl rfl rfl rfl rfl rfl rfl rfl rfl rfl rfl fun M E' g0 g1 g2 g7 g9 g11 g12 k0 k1 k2 k7 k9 k11 k12 hS => by
          simp (disch := omega) only [go_sem, undef, g0, g1, g2, g7, g9, g11, g12, k0, k1, k2, k7, k9, k11, k12]
          exact handN_intro (8 - (i + 1)) (by omega) ⟨i + 1, by omega, by omega, rfl, rfl, hS⟩
end Go.Fw
namespace Go.Fw
open Go.RowKit Go.ChangeShapes Go.WideShapes
open Go.Proofs Go.Proofs.YtbbiiodadoeflaaGreatDoor
theorem open_byteRowsZ {H : Type} {enc : TypeId × Value → H} {P : Program} {W : World} {base : Nat} {held : Bool} {r : Reach} {b0 : Nat} {t e q : TypeId} {v : Value} {d : DataW H} {p : List MemPlace} (ht : P.underlying t = some (.slice e)) (he : P.underlying e = some (.slice q)) (hq : P.underlying q = some (.int .u8))
    (ce : P.cellsOf e = 1) (cq : P.cellsOf q = 1) (bq : P.bytesOf q = 1) (hv : Value.okWide P W r b0 t v) (h : DataW.Trod enc P W base (fun _ => true) held t v d p) (hz : ∀ n ∈ d.weights P t, n ≤ reachBytes) :
    ∃ vs ls, RdS 1 v1 (absM W) v vs ∧ F2 (fun v l => RdB (absM W) v l) vs ls ∧ vs.length ≤ 9223372036854775807 ∧ ∀ l ∈ ls, l.length ≤ 140737488355328 := by
  obtain ⟨fuel, hf⟩ := h
  obtain ⟨a0, n0, c0, rfl⟩ := okWide_slice ht hv
  have hcs : (Value.slice a0 n0 c0).cells.toList = [.slice a0 n0 c0] := rfl
  rw [hcs] at hf
  obtain ⟨v, vs, ls, e1, h⟩ := byteRows_sized ht he hq ce cq bq hf hz
  cases e1
  exact ⟨vs, ls, h⟩
theorem open_intsZ {H : Type} {enc : TypeId × Value → H} {P : Program} {W : World} {base : Nat} {held : Bool} {r : Reach} {b0 : Nat} {t e : TypeId} {v : Value} {d : DataW H} {p : List MemPlace} (ht : P.underlying t = some (.slice e)) (he : P.underlying e = some (.int .i64)) (ce : P.cellsOf e = 1)
    (hv : Value.okWide P W r b0 t v) (h : DataW.Trod enc P W base (fun _ => true) held t v d p) : ∃ ps, RdS 1 ic (absM W) v ps ∧ (∀ n ∈ ps, R64 n) ∧ ps.length ≤ 9223372036854775807 := by
  obtain ⟨fuel, hf⟩ := h
  obtain ⟨a0, n0, c0, rfl⟩ := okWide_slice ht hv
  have hcs : (Value.slice a0 n0 c0).cells.toList = [.slice a0 n0 c0] := rfl
  rw [hcs] at hf
  obtain ⟨v, ps, e1, h⟩ := trod_ints ht he ce hf
  cases e1
  exact ⟨ps, h⟩
/-- what a listed variable reads as -/
theorem lv_reads {P : Program} {w : World} : ∀ {l : List (String × DataW Unit)} {ps : List MemPlace}, DataW.LaidVars P w l ps → ∀ n d, (n, d) ∈ l → ∃ g t cs fuel p, P.globalNamed n = some g ∧ (P.globals[g]?).map (·.type) = some t ∧ w.var? P n = some cs ∧ DataW.trod (fun _ => ()) P w 0 (fun _ => true) false fuel t cs.toList = some (d, p)
  | [], _, _, _, _, hm => by cases hm
  | (n', d') :: r, ps, h, n, d, hm => by
    obtain ⟨g, t, cs, fuel, p, q, h1, h2, h3, h4, h5, _⟩ := h
    rcases List.mem_cons.1 hm with e | e
    · cases e
      exact ⟨g, t, cs, fuel, p, h1, h2, h3, h4⟩
    · exact lv_reads h5 n d e
theorem gk_of {W : World} (h : laidMetH Tryz.prog Rows.walOpensRow.laid W) : Gk (absM W) := by
  have h1 := (laidMetH_iff.1 h).1
  obtain ⟨ps, hl, _, _⟩ := h1
  have hm : ("strconv.ErrSyntax", (Rows.laid_strconv_ErrSyntax : DataW Unit)) ∈ (Rows.walOpensRow.laid.filter fun x => x.2.handleName?.isNone) := by
    refine List.mem_filter.2 ⟨by simp [Rows.walOpensRow], by decide +kernel⟩
  obtain ⟨g, t, cs, fuel, p, e1, e2, e3, e4⟩ := lv_reads hl _ _ hm
  have hg : Tryz.prog.globalNamed "strconv.ErrSyntax" = some 1 := by kernel_rfl
  have eg : g = 1 := Option.some.inj (e1.symm.trans hg)
  subst eg
  have hb : (((Tryz.prog.globals[1]?).map (·.type)).bind Tryz.prog.underlying).elim false (fun d => match d with | .interface _ => true | _ => false) = true := by kernel_rfl
  rw [e2] at hb
  obtain ⟨ms, hi⟩ : ∃ ms, Tryz.prog.underlying t = some (.interface ms) := by
    cases hu : Tryz.prog.underlying t with
    | none => rw [Option.bind_some, hu] at hb; cases hb
    | some d =>
      rw [Option.bind_some, hu] at hb
      cases d <;> first | exact ⟨_, rfl⟩ | (simp at hb)
  obtain ⟨f', u, v, hcs, _, _⟩ := iface_of_trod hi e4
  unfold World.var? at e3
  rw [hg, Option.bind_some] at e3
  refine ⟨.iface u v, ?_, .inr ⟨u, v, rfl⟩⟩
  show cellAt (W.heap[1]?) 0 = _
  cases ho : W.heap[1]? with
  | none => rw [ho] at e3; cases e3
  | some o =>
    rw [ho] at e3
    cases o <;> first | (cases e3; done) | skip
    rename_i c tt ff
    have e5 : c = cs := Option.some.inj e3
    rw [← e5] at hcs
    show c[0]? = some (Value.iface u v)
    rw [← Array.getElem?_toList, hcs]; rfl
end Go.Fw
