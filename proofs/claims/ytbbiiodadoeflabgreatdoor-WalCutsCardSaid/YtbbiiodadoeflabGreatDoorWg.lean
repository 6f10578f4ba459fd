import Derived.Test.YtbbiiodadoeflabGreatDoorWf
set_option linter.unusedVariables false
set_option linter.unusedSimpArgs false
set_option linter.unusedSimpArgs false
set_option linter.unusedVariables false
namespace Go.Fw
open Go.Proofs
variable {m m0 M : Mem} {S : List Nat} {L : List As}
variable {rb wb : Nat} {fv : Value} {rs : List Row} {D : Dk}
/-! the power comes again -/
def ic (n : Int) : List Value := [.int .i64 n]
theorem ic_len (n : Int) : (ic n).length = 1 := rfl
def pkN (ps : List Int) (i : Nat) : Nat := ((ps[i]?).getD 0).toNat
def crN (p : Nat) (f : Fl) : Nat := f.kept + p % (f.b.length - f.kept + 1)
def crT (p : Nat) (f : Fl) : Fl := ⟨f.name, f.b.take (crN p f), crN p f⟩
def crL (ps : List Int) (l : List Fl) : List Fl := l.mapIdx fun i f => crT (pkN ps i) f
def crF (ps : List Int) (D : Dk) : Dk := ⟨D.quota, crL ps D.fl, false, false, 0⟩
theorem crN_le (p : Nat) (f : Fl) (h : f.kept ≤ f.b.length) : crN p f ≤ f.b.length := by
  have := Nat.mod_lt p (show 0 < f.b.length - f.kept + 1 by omega)
  unfold crN; omega
set_option maxHeartbeats 8000000 in
theorem crash_s (h : (dkA rb fv rs D).p m) (ps : List Int) {pv : Value} (hpv : RdS 1 ic m pv ps) (hpr : ∀ x ∈ ps, R64i x) (hpn : ps ≠ [] → ∀ b ∈ blkOf pv, b ∉ (dkA rb fv rs D).wp ∧ m b ≠ none) (hpl : ps.length ≤ 1000000) (hn : D.fl.length ≤ 1000000) (hT : tot D.fl ≤ 500000000) (hk : ∀ f ∈ D.fl, f.kept ≤ f.b.length) :
    CM Tryz.prog n_disk_Disk_Crash [lpD rb, pv] m (dkA rb fv rs D) (DkR rb (crF ps D) (.tuple #[])) := by
  have H := Hq.one h
  obtain ⟨a, c, rfl⟩ := hpv.form
  have hb := dk_cell h
  have hlen := dk_len h
  refine disk_Disk_Crash_go (by simp [Tryz.f33]) ?_
  simp (disch := omega) only [go_sem, undef, hb, dkC]
  refine wrQ0 H.dk fun M f H => ?_
  have H := Hq.kd (l := dkC fv { D with off := false }) (D := D) { D with off := false } H rfl rfl
  have hb := dk_cell (H.at 0 rfl)
  simp (disch := omega) only [go_sem, undef, hb, dkC]
  refine wrQ0 H.dk fun M f H => ?_
  have H := Hq.kd (l := dkC fv { D with off := false, armed := false }) (D := { D with off := false }) { D with off := false, armed := false } H rfl rfl
  have hb := dk_cell (H.at 0 rfl)
  simp (disch := omega) only [go_sem, undef, hb, dkC]
  refine wrQ0 H.dk fun M f H => ?_
  have H := Hq.kd (l := dkC fv ⟨D.quota, D.fl, false, false, 0⟩) (D := { D with off := false, armed := false }) ⟨D.quota, D.fl, false, false, 0⟩ H rfl rfl
  have hb := dk_cell (H.at 0 rfl)
  have hr := dk_rds (H.at 0 rfl)
  obtain ⟨a2, c2, rfl⟩ := hr.form
  simp (disch := omega) only [go_sem, undef, hb, dkC]
  refine loopQ_intro (fun k E m' => ∃ j X rs', j ≤ rs.length ∧ k = rs.length - j ∧ X.length = rs.length ∧ rs'.length = rs.length ∧ (∀ i, i < j → X[i]? = (crL ps D.fl)[i]?) ∧ (∀ i, j ≤ i → X[i]? = D.fl[i]?) ∧ E = [(0, lpD rb), (1, .slice a ps.length c), (20, .int .i64 (rs.length : Nat)), (21, .int .i64 (j : Nat))] ∧
      Hq m m' (dkA rb (.slice a2 rs.length c2) rs D).wp [dkA rb (.slice a2 rs.length c2) rs' ⟨D.quota, X, false, false, 0⟩]) rs.length rfl ⟨0, D.fl, rs, by omega, by omega, hlen.symm, rfl, by intro i hi; omega, fun i _ => rfl, rfl, H⟩ ?_
  clear H f hb hr
  rintro k E M1 ⟨j, X, rs', hj, rfl, hXl, hrl, hX1, hX2, rfl, H⟩
  simp (disch := omega) only [go_sem, undef]
  refine condB_dec (fun hlt => ?_) (fun hlt => ?_)
  · have hlt : j < rs.length := by omega
    have hp := H.at 0 rfl
    have hb := dk_cell hp
    have hjf : X[j]? = some D.fl[j] := by rw [hX2 j (Nat.le_refl _)]; exact List.getElem?_eq_getElem (by omega)
    obtain ⟨y, hy⟩ : ∃ y, y = D.fl[j] := ⟨_, rfl⟩
    rw [← hy] at hjf
    have hym : y ∈ D.fl := by rw [hy]; exact List.getElem_mem _
    have hyk := hk y hym
    have hyl : y.b.length ≤ 500000000 := by
      have h1 := tot_take D.fl j y (by rw [hy]; exact List.getElem?_eq_getElem (by omega))
      have h2 := tot_le D.fl (j + 1)
      omega
    refine F2_at (i := j) (dk_row hp) (by omega) fun r y' hr1 hy' hR => ?_
    rw [show (⟨D.quota, X, false, false, 0⟩ : Dk).fl = X from rfl, hjf] at hy'
    cases hy'
    refine Own.rowK ((H.open3).at 1 rfl) (by omega) fun b cap tail efv hbb hll => ?_
    have ea : a2 = some ⟨b, 0, none⟩ := by injection efv
    have ec : c2 = cap := by injection efv
    subst ea ec
    have hE := RdS.elO (dk_rds hp) hrl hr1 (by decide)
    have hc1 := hE.cell 1 _ rfl
    have hc2 := hE.cell 2 _ rfl
    have hkk : r.2.2 = y.kept := hR.2.1
    rw [hkk] at hc2
    refine Exists.elim hR.2.2.1.form fun a3 hh => Exists.elim hh fun c3 ev => ?_
    rw [ev] at hc1
    have hRb := hR.2.2.1
    rw [ev] at hRb
    have hcn := crN_le (pkN ps j) y hyk
    obtain ⟨N, hN⟩ : ∃ N, N = crN (pkN ps j) y := ⟨_, rfl⟩
    have hct : crT (pkN ps j) y = ⟨y.name, y.b.take N, N⟩ := by rw [hN]; rfl
    rw [← hN] at hcn
    refine Exists.elim (RdS.cut (by decide) hRb 0 N (by omega) hcn) fun a' hh => Exists.elim hh fun c' hcr => ?_
    have hcc := hcr.1
    have hcb := hcr.2.1
    clear hh hcr
    rw [List.drop_zero, Nat.sub_zero] at hcb
    rw [Nat.sub_zero] at hcc
    have hcc : cutS 1 a3 c3 0 (N : Nat) = some (.slice a' N c') := hcc
    have hnl : (y.b.take N).length = N := by rw [List.length_take]; omega
    have hcl : RdB M1 (.slice a' N c') (y.b.take N) := hcb
    have hrem : ∀ p : Nat, ((p : Nat) : Int).tmod ((y.b.length : Nat) - ((y.kept : Nat) : Int) + 1) = ((p % (y.b.length - y.kept + 1) : Nat) : Int) := fun p => by
      rw [show ((y.b.length : Nat) : Int) - ((y.kept : Nat) : Int) + 1 = ((y.b.length - y.kept + 1 : Nat) : Int) from by omega]
      rfl
    have hjr : j < rs'.length := by omega
    simp (disch := omega) only [go_sem, undef, hb, dkC, rd_ixs, hrl]
    by_cases hpj : j < ps.length
    · have hpn := hpn (by intro e; rw [e] at hpj; simp at hpj)
      refine RdS.elK (hpv.st fun b hb => H.fr b (hpn b hb).2 (hpn b hb).1) hpj (by decide) fun bx o x hx hix hEx => ?_
      have hx0 : (ic x)[0]? = some (.int .i64 x) := rfl
      have hsum : ((y.kept : Nat) : Int) + ((pkN ps j % (y.b.length - y.kept + 1) : Nat) : Int) = ((N : Nat) : Int) := by rw [hN]; unfold crN; omega
      have hmx : max x 0 = ((pkN ps j : Nat) : Int) := by unfold pkN; rw [hx]; simp
      simp (disch := omega) only [go_sem, undef, dec_t (show ((j : Nat) : Int) < (ps.length : Nat) by omega), hix, hEx.ld0, hx0, hmx, hc1, hc2, rd_rem, hrem, hsum, rd_slc01, hcc]
      refine callN H (clone_s hcl (by omega)) fun u M A' eA f3 H => ?_
      subst eA
      refine Own.formK (H.at 0 rfl) fun a4 c4 e4 => ?_
      subst e4
      rw [hnl] at *
      simp (disch := omega) only [go_sem, undef, rd_ixs]
      have H := Hq.open3 (H.perm (List.Perm.swap ..))
      refine putFile (r' := (r.1, .slice a4 N c4, r.2.2)) (by rw [← hrl] at H; exact H.rot3) hr1 (by decide) rfl fun M f H => ?_
      have hset : (rs'.set j (r.1, .slice a4 N c4, r.2.2))[j]? = some (r.1, .slice a4 N c4, r.2.2) := by rw [List.getElem?_set_self (by omega)]
      have hE := RdS.elO (Own.rds (k := 3) (enc := rowE) (by decide) rowE_len (H.at 0 rfl)) (by rw [List.length_set]) hset (by decide)
      have hc := hE.cell 1 _ rfl
      simp (disch := omega) only [go_sem, undef, hc]
      refine putFile (r' := (r.1, .slice a4 N c4, N)) H hset (by decide) rfl fun M f H => ?_
      rw [List.set_set] at H
      have H := bs_put (i := j) (r := r) (r' := (r.1, .slice a4 N c4, N)) (f' := ⟨y.name, y.b.take N, N⟩) H.rev4 rfl rfl hR.1 rfl
      have H := Hq.close3 (D := ⟨D.quota, X.set j ⟨y.name, y.b.take N, N⟩, false, false, 0⟩) H.rot3'.rot3'
      rw [hrl] at H
      simp (disch := omega) only [go_sem, undef]
      refine handN_intro (rs.length - (j + 1)) (by omega) ⟨j + 1, X.set j ⟨y.name, y.b.take N, N⟩, rs'.set j (r.1, .slice a4 N c4, N), by omega, rfl, by rw [List.length_set, hXl], by rw [List.length_set, hrl], fun i hi => ?_, fun i hi => ?_, rfl, H⟩
      · by_cases hij : i = j
        · subst hij
          rw [List.getElem?_set_self (by omega)]
          unfold crL
          rw [List.getElem?_mapIdx, List.getElem?_eq_getElem (by omega), ← hy, Option.map_some, hct]
        · rw [List.getElem?_set_ne (by omega)]; exact hX1 i (by omega)
      · rw [List.getElem?_set_ne (by omega)]; exact hX2 i (by omega)
    · have hp0 : pkN ps j = 0 := by unfold pkN; rw [List.getElem?_eq_none (by omega)]; rfl
      have hN0 : y.kept = N := by rw [hN, hp0]; simp [crN]
      have hcc2 : cutS 1 a3 c3 0 (y.kept : Nat) = some (.slice a' N c') := by rw [hN0]; exact hcc
      simp (disch := omega) only [go_sem, undef, dec_f (show ¬ ((j : Nat) : Int) < (ps.length : Nat) by omega), hc1, hc2, rd_rem, Int.zero_tmod, Int.add_zero, rd_slc01, hcc2]
      refine callN H (clone_s hcl (by omega)) fun u M A' eA f3 H => ?_
      subst eA
      refine Own.formK (H.at 0 rfl) fun a4 c4 e4 => ?_
      subst e4
      rw [hnl] at *
      simp (disch := omega) only [go_sem, undef, rd_ixs]
      have H := Hq.open3 (H.perm (List.Perm.swap ..))
      refine putFile (r' := (r.1, .slice a4 N c4, r.2.2)) (by rw [← hrl] at H; exact H.rot3) hr1 (by decide) rfl fun M f H => ?_
      have hset : (rs'.set j (r.1, .slice a4 N c4, r.2.2))[j]? = some (r.1, .slice a4 N c4, r.2.2) := by rw [List.getElem?_set_self (by omega)]
      have hE := RdS.elO (Own.rds (k := 3) (enc := rowE) (by decide) rowE_len (H.at 0 rfl)) (by rw [List.length_set]) hset (by decide)
      have hc := hE.cell 1 _ rfl
      simp (disch := omega) only [go_sem, undef, hc]
      refine putFile (r' := (r.1, .slice a4 N c4, N)) H hset (by decide) rfl fun M f H => ?_
      rw [List.set_set] at H
      have H := bs_put (i := j) (r := r) (r' := (r.1, .slice a4 N c4, N)) (f' := ⟨y.name, y.b.take N, N⟩) H.rev4 rfl rfl hR.1 rfl
      have H := Hq.close3 (D := ⟨D.quota, X.set j ⟨y.name, y.b.take N, N⟩, false, false, 0⟩) H.rot3'.rot3'
      rw [hrl] at H
      simp (disch := omega) only [go_sem, undef]
      refine handN_intro (rs.length - (j + 1)) (by omega) ⟨j + 1, X.set j ⟨y.name, y.b.take N, N⟩, rs'.set j (r.1, .slice a4 N c4, N), by omega, rfl, by rw [List.length_set, hXl], by rw [List.length_set, hrl], fun i hi => ?_, fun i hi => ?_, rfl, H⟩
      · by_cases hij : i = j
        · subst hij
          rw [List.getElem?_set_self (by omega)]
          unfold crL
          rw [List.getElem?_mapIdx, List.getElem?_eq_getElem (by omega), ← hy, Option.map_some, hct]
        · rw [List.getElem?_set_ne (by omega)]; exact hX1 i (by omega)
      · rw [List.getElem?_set_ne (by omega)]; exact hX2 i (by omega)
  · have e : j = rs.length := by omega
    subst e
    have hX : X = crL ps D.fl := List.ext_getElem? fun i => by
      by_cases hi : i < rs.length
      · exact hX1 i hi
      · rw [List.getElem?_eq_none (by omega), List.getElem?_eq_none (by unfold crL; simp; omega)]
    subst hX
    simp (disch := omega) only [go_sem, undef]
    exact cm_done H
end Go.Fw

set_option linter.unusedSimpArgs false
set_option linter.unusedVariables false
namespace Go.Fw
open Go.Proofs
variable {m m0 M : Mem} {S : List Nat} {L : List As}
variable {rb wb : Nat} {fv : Value} {rs : List Row} {D : Dk}
theorem RdS.there {α : Type} {k : Nat} {enc : α → List Value} {v : Value} {l : List α} (h : RdS k enc m v l) (k0 : 0 < k) (hl : l ≠ []) : ∀ b ∈ blkOf v, m b ≠ none := by
  obtain ⟨hk, a, c, rfl, hc, hr⟩ := h
  intro b hb
  rcases hr with h0 | ⟨b', o, rfl, h⟩
  · have := fm_len hk l
    rw [h0] at this
    have := List.length_pos_iff.2 hl
    have : 0 < l.length * k := Nat.mul_pos this k0
    simp at *; omega
  · have hb : b = b' := by simpa [blkOf] using hb
    subst hb
    have hlen := fm_len hk l
    have hpos : 0 < (l.flatMap enc).length := by rw [hlen]; exact Nat.mul_pos (List.length_pos_iff.2 hl) k0
    have := h 0 _ (List.getElem?_eq_getElem hpos)
    intro e
    rw [e] at this
    simp [cellAt] at this
def okF (p : Bs) : Bool := decide (0 < p.length) && decide (p.length ≤ 1500)
def fewN : Nat → List Bs → List Bs
  | 0, _ => []
  | _, [] => []
  | n + 1, p :: r => if okF p then p :: fewN n r else fewN n r
def fewL (l : List Bs) : List Bs := (l.take 6).filter okF
theorem fewL_ok (l : List Bs) : (∀ p ∈ fewL l, okR p ∧ p.length ≤ 1500) ∧ (fewL l).length ≤ 6 := by
  refine ⟨fun p hp => ?_, ?_⟩
  · have h := (List.mem_filter.1 hp).2
    simp only [okF, Bool.and_eq_true, decide_eq_true_eq] at h
    exact ⟨⟨h.1, by omega⟩, h.2⟩
  · exact Nat.le_trans (List.length_filter_le ..) (by rw [List.length_take]; omega)
theorem flat_bound : ∀ (l : List Bs) (k : Nat), (∀ p ∈ l, p.length ≤ k) → l.flatten.length ≤ l.length * k
  | [], k, _ => by simp
  | p :: r, k, h => by
    have := flat_bound r k fun q hq => h q (List.mem_cons_of_mem _ hq)
    have := h p (List.mem_cons_self ..)
    rw [List.flatten_cons, List.length_append, List.length_cons, Nat.add_mul]; omega
set_option maxHeartbeats 4000000 in
theorem few_s {v : Value} {vs : List Value} {ls : List Bs} (hv : RdS 1 v1 m v vs) (hF : F2 (fun v l => RdB m v l) vs ls) (hn : vs.length ≤ 9223372036854775807) (hln : ∀ l ∈ ls, l.length ≤ 9223372036854775807) {R : Value → Bs → Prop} (hR : F2 R vs ls) :
    CN Tryz.prog n_law10_few [v] m fun u A => ∃ us, A = wnA u us ∧ F2 R us (fewL ls) := by
  obtain ⟨a, c, rfl⟩ := hv.form
  refine law10_few_go (by simp [Tryz.f33]) ?_
  have H := (Hq.refl m []).nilRow 51 1
  simp (disch := omega) only [go_sem, undef]
  refine loopQ_intro (fun k E m' => ∃ i w us, i ≤ vs.length ∧ i ≤ 6 ∧ k = vs.length - i ∧ us.length ≤ i ∧ F2 R us ((ls.take i).filter okF) ∧ E = [(0, .slice a vs.length c), (3, w), (4, .int .i64 (i : Nat))] ∧ Hq m m' [] [wnA w us]) vs.length rfl ⟨0, .slice none 0 0, [], by omega, by omega, by omega, by simp, .nil, rfl, H⟩ ?_
  clear H
  rintro k E M1 ⟨i, w, us, hi1, hi2, rfl, hus, hU, rfl, H⟩
  have hll := F2_len hF
  have hfin : ¬ (i < vs.length ∧ i < 6) → (ls.take i).filter okF = fewL ls := fun h => by
    unfold fewL
    by_cases h6 : i = 6
    · rw [h6]
    · rw [List.take_of_length_le (show ls.length ≤ i by omega), List.take_of_length_le (show ls.length ≤ 6 by omega)]
  by_cases h1 : i < vs.length
  · by_cases h2 : i < 6
    · refine F2_at hF h1 fun x0 x hx0 hx hX => ?_
      refine RdS.elK (hv.frame H.fr) h1 (by decide) fun bx o x' hx' hix hE => ?_
      rw [hx0] at hx'
      cases hx'
      have hRx := F2_get hR hx0 hx
      refine Exists.elim hX.form fun a3 hh => Exists.elim hh fun c3 ev => ?_
      subst ev
      have hxl := hln x (List.mem_of_getElem? hx)
      have hsn : (ls.take (i + 1)).filter okF = (ls.take i).filter okF ++ if okF x then [x] else [] := by
        rw [List.take_add_one, hx, Option.toList_some, List.filter_append]
        congr 1
        by_cases h : okF x = true <;> simp [h]
      have hlt1 := dec_t (show ((i : Nat) : Int) < (vs.length : Nat) by omega)
      by_cases hp : 0 < x.length
      · by_cases hq : x.length ≤ 1500
        · have hok : okF x = true := by simp [okF, hp, hq]
          rw [if_pos hok] at hsn
          simp (disch := omega) only [go_sem, undef, dec_t (show ((i : Nat) : Int) < (vs.length : Nat) by omega), dec_t (show ((i : Nat) : Int) < 6 by omega), hix, hE.ld0, dec_t (show ((x.length : Nat) : Int) > 0 by omega), dec_t (show ((x.length : Nat) : Int) ≤ 1500 by omega)]
          refine newQ H fun b2 M f2 H => ?_
          simp (disch := omega) only [go_sem, undef]
          refine appQ1 H (k := 1) rfl (ldS_cell (l := [_]) H.cs.1 (by simp)) rfl (by simp [Value.oneCell']) rfl (by omega) (by omega) fun w3 M f H => ?_
          have H : Hq m M [] [wnA w3 (us ++ [.slice a3 x.length c3])] := by
            have e : wnA w3 (us ++ [.slice a3 x.length c3]) = ownA 51 1 w3 (us.length + 1) (us.flatMap v1 ++ [.slice a3 x.length c3]) := by rw [wnA, List.length_append, List.flatMap_append]; rfl
            rw [e]
            exact H.tail
          simp (disch := omega) only [go_sem, undef]
          exact handN_intro (vs.length - (i + 1)) (by omega) ⟨i + 1, w3, us ++ [.slice a3 x.length c3], by omega, by omega, rfl, by rw [List.length_append]; simp; omega, by rw [hsn]; exact F2_snoc2 hU hRx, rfl, H⟩
        · have hok : ¬ okF x = true := by simp [okF, hp, hq]
          rw [if_neg hok, List.append_nil] at hsn
          simp (disch := omega) only [go_sem, undef, dec_t (show ((i : Nat) : Int) < (vs.length : Nat) by omega), dec_t (show ((i : Nat) : Int) < 6 by omega), hix, hE.ld0, dec_t (show ((x.length : Nat) : Int) > 0 by omega), dec_f (show ¬ ((x.length : Nat) : Int) ≤ 1500 by omega)]
          exact handN_intro (vs.length - (i + 1)) (by omega) ⟨i + 1, w, us, by omega, by omega, rfl, by omega, by rw [hsn]; exact hU, rfl, H⟩
      · have hok : ¬ okF x = true := by simp [okF, hp]
        rw [if_neg hok, List.append_nil] at hsn
        simp (disch := omega) only [go_sem, undef, dec_t (show ((i : Nat) : Int) < (vs.length : Nat) by omega), dec_t (show ((i : Nat) : Int) < 6 by omega), hix, hE.ld0, dec_f (show ¬ ((x.length : Nat) : Int) > 0 by omega)]
        exact handN_intro (vs.length - (i + 1)) (by omega) ⟨i + 1, w, us, by omega, by omega, rfl, by omega, by rw [hsn]; exact hU, rfl, H⟩
    · simp (disch := omega) only [go_sem, undef, dec_t (show ((i : Nat) : Int) < (vs.length : Nat) by omega), dec_f (show ¬ ((i : Nat) : Int) < 6 by omega)]
      rw [hfin (fun h => h2 h.2)] at hU
      exact ⟨_, ⟨us, rfl, hU⟩, H.hs.1, H.fr, fun b hb => (H.done.2.2 b hb).resolve_left (by simp)⟩
  · simp (disch := omega) only [go_sem, undef, dec_f (show ¬ ((i : Nat) : Int) < (vs.length : Nat) by omega)]
    rw [hfin (fun h => h1 h.1)] at hU
    exact ⟨_, ⟨us, rfl, hU⟩, H.hs.1, H.fr, fun b hb => (H.done.2.2 b hb).resolve_left (by simp)⟩
end Go.Fw

set_option linter.unusedSimpArgs false
set_option linter.unusedVariables false
namespace Go.Fw
open Go.Proofs
variable {m m0 M : Mem} {S : List Nat} {L : List As}
variable {rb wb : Nat} {fv : Value} {rs : List Row} {D : Dk}
theorem add_k {g n : Nat} {segs recs l : List Bs} {lv : Value} {vs : List Value} (h : (wlA wb rb fv rs ⟨g, segs.length, false⟩ D).p m) (ok : Okd D) (G : Gen D.fl g segs) (R : SegR segs n recs) (hg0 : 0 < g) (hg : g < 100) (hK : segs.length < 98) (hpos : 0 < segs.length)
    (hv : RdS 1 v1 m lv vs) (hF : F2 (fun v l => RdB m v l) vs l) (hok : ∀ p ∈ l, okR p) (hlt : l.flatten.length ≤ 100000000) (hvl : vs.length ≤ 1000000) (hT : tot D.fl ≤ 5000000) (hl : D.left ≤ 1000000000000) (hq : D.quota ≤ 500000000) (hr : tot D.fl + (frs l).length ≤ D.quota) :
    CM Tryz.prog n_wal_Wal_Add [lpD wb, lv] m (wlA wb rb fv rs ⟨g, segs.length, false⟩ D) fun u A => ∃ fv rs F segs', u = .int .i64 0 ∧ A = wlA wb rb fv rs ⟨g, segs'.length, false⟩ { D with fl := F } ∧ Gen F g segs' ∧ SegR segs' n (recs ++ l) ∧ tot F ≤ tot D.fl + (frs l).length ∧ 0 < segs'.length ∧ segs'.length ≤ segs.length + 1 := by
  by_cases hl0 : l = []
  · subst hl0
    have hlen := G.len
    have e : addF [] ⟨g, segs.length, false⟩ D = (⟨g, segs.length, false⟩, D, 0) := by
      unfold addF; rw [if_neg (by simp), if_neg (by simp only; omega), if_pos rfl]
    have := add_s h hg (by simp only; omega) hv hF hok hvl hlt (by omega) hl (by omega) hq
    rw [e] at this
    exact this.mono fun u M ⟨A, ⟨e1, fv, rs, e2⟩, h2⟩ => ⟨A, ⟨fv, rs, D.fl, segs, e1, e2, G, by rw [List.append_nil]; exact R, by omega, hpos, by omega⟩, h2⟩
  · exact (add_g h ok G R hg0 hg hK hpos hl0 hv hF hok hlt hvl hT hl hq hr).mono fun u M ⟨A, ⟨fv, rs, F, segs', e1, e2, G2, R2, ht, es⟩, h2⟩ =>
      ⟨A, ⟨fv, rs, F, segs', e1, e2, G2, R2, by omega, by rw [es]; split <;> simp, by rw [es]; split <;> simp <;> omega⟩, h2⟩
/-- where all is kept a crash takes nothing -/
theorem crF_kept {D : Dk} (ps : List Int) (ok : Okd D) (hl : D.left = 0) (hk : ∀ f ∈ D.fl, f.kept = f.b.length) : crF ps D = D := by
  have e : crL ps D.fl = D.fl := List.ext_getElem? fun i => by
    unfold crL
    rw [List.getElem?_mapIdx]
    cases h : D.fl[i]? with
    | none => rfl
    | some f =>
      have := hk f (List.mem_of_getElem? h)
      simp only [Option.map_some, Option.some.injEq]
      obtain ⟨nm, b, k⟩ := f
      simp only at this
      subst this
      simp [crT, crN, Nat.mod_one]
  obtain ⟨q, fl, off, armed, left⟩ := D
  have h1 := ok.off
  have h2 := ok.arm
  simp only at h1 h2 hl
  subst h1 h2 hl
  unfold crF
  rw [e]
theorem Gen.kb {fl : List Fl} {g : Nat} {segs : List Bs} (G : Gen fl g segs) : ∀ x ∈ fl, x.kept = x.b.length := fun x hx => by
  obtain ⟨k, hk, e⟩ := G.only x hx
  have h1 := mem_look G.srt hx
  rw [e, G.seg k hk] at h1
  cases h1
  rfl
theorem wn_one {us : List Value} {l : List Bs} (h : F2 (fun v l => RdB m v l) us l) : ∀ v ∈ us.flatMap v1, v.oneCell' = true := fun v hv => by
  obtain ⟨x, hx, hv⟩ := List.mem_flatMap.1 hv
  have hvx : v = x := by simpa [v1] using hv
  subst hvx
  have h2 : F2 (fun x y => True ∧ x.oneCell' = true) us l := F2_imp h fun x _ y hy => ⟨trivial, one_of hy⟩
  exact F2_mem (Q := fun x => x.oneCell' = true) h2 v hx
theorem wn_app {w : Value} {us ms : List Value} : ownA 51 1 w (us.length + ms.length) (us.flatMap v1 ++ ms.flatMap v1) = wnA w (us ++ ms) := by rw [wnA, List.length_append, List.flatMap_append]
end Go.Fw
