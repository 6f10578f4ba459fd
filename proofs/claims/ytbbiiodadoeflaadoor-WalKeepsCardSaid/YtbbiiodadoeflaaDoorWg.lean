import Derived.Test.YtbbiiodadoeflaaDoorWf
set_option linter.unusedVariables false
set_option linter.unusedSimpArgs false
set_option linter.unusedSimpArgs false
set_option linter.unusedVariables false
namespace Go.Fw
open Go.Proofs
variable {m m0 M : Mem} {S : List Nat} {L : List As}
variable {rb wb : Nat} {fv : Value} {rs : List Row} {D : Dk}
/-! the power comes again -/
def ic (n : Int) : List Value := [.int .i64 n]
theorem ic_len (n : Int) : (ic n).length = 1 := rfl
def pkN (ps : List Int) (i : Nat) : Nat := ((ps[i]?).getD 0).toNat
def crN (p : Nat) (f : Fl) : Nat := f.kept + p % (f.b.length - f.kept + 1)
def crT (p : Nat) (f : Fl) : Fl := ⟨f.name, f.b.take (crN p f), crN p f⟩
def crL (ps : List Int) (l : List Fl) : List Fl := l.mapIdx fun i f => crT (pkN ps i) f
def crF (ps : List Int) (D : Dk) : Dk := ⟨D.quota, crL ps D.fl, false, false, 0⟩
theorem crN_le (p : Nat) (f : Fl) (h : f.kept ≤ f.b.length) : crN p f ≤ f.b.length := by
  have := Nat.mod_lt p (show 0 < f.b.length - f.kept + 1 by omega)
  unfold crN; omega
set_option maxHeartbeats 8000000 in
theorem crash_s (h : (dkA rb fv rs D).p m) (ps : List Int) {pv : Value} (hpv : RdS 1 ic m pv ps) (hpr : ∀ x ∈ ps, R64i x) (hpn : ps ≠ [] → ∀ b ∈ blkOf pv, b ∉ (dkA rb fv rs D).wp ∧ m b ≠ none) (hpl : ps.length ≤ 1000000) (hn : D.fl.length ≤ 1000000) (hT : tot D.fl ≤ 500000000) (hk : ∀ f ∈ D.fl, f.kept ≤ f.b.length) :
    CM Tryd.prog n_disk_Disk_Crash [lpD rb, pv] m (dkA rb fv rs D) (DkR rb (crF ps D) (.tuple #[])) := by
  have H := Hq.one h
  obtain ⟨a, c, rfl⟩ := hpv.form
  have hb := dk_cell h
  have hlen := dk_len h
  refine disk_Disk_Crash_go (by simp [Tryd.f33]) ?_
  simp (disch := omega) only [go_sem, undef, hb, dkC]
  refine wrQ0 H.dk fun M f H => ?_
  have H := Hq.kd (l := dkC fv { D with off := false }) (D := D) { D with off := false } H rfl rfl
  have hb := dk_cell (H.at 0 rfl)
  simp (disch := omega) only [go_sem, undef, hb, dkC]
  refine wrQ0 H.dk fun M f H => ?_
  have H := Hq.kd (l := dkC fv { D with off := false, armed := false }) (D := { D with off := false }) { D with off := false, armed := false } H rfl rfl
  have hb := dk_cell (H.at 0 rfl)
  simp (disch := omega) only [go_sem, undef, hb, dkC]
  refine wrQ0 H.dk fun M f H => ?_
  have H := Hq.kd (l := dkC fv ⟨D.quota, D.fl, false, false, 0⟩) (D := { D with off := false, armed := false }) ⟨D.quota, D.fl, false, false, 0⟩ H rfl rfl
  have hb := dk_cell (H.at 0 rfl)
  have hr := dk_rds (H.at 0 rfl)
  obtain ⟨a2, c2, rfl⟩ := hr.form
  simp (disch := omega) only [go_sem, undef, hb, dkC]
  refine loopQ_intro (fun k E m' => ∃ j X rs', j ≤ rs.length ∧ k = rs.length - j ∧ X.length = rs.length ∧ rs'.length = rs.length ∧ (∀ i, i < j → X[i]? = (crL ps D.fl)[i]?) ∧ (∀ i, j ≤ i → X[i]? = D.fl[i]?) ∧ E = [(0, lpD rb), (1, .slice a ps.length c), (20, .int .i64 (rs.length : Nat)), (21, .int .i64 (j : Nat))] ∧
      Hq m m' (dkA rb (.slice a2 rs.length c2) rs D).wp [dkA rb (.slice a2 rs.length c2) rs' ⟨D.quota, X, false, false, 0⟩]) rs.length rfl ⟨0, D.fl, rs, by omega, by omega, hlen.symm, rfl, by intro i hi; omega, fun i _ => rfl, rfl, H⟩ ?_
  clear H f hb hr
  rintro k E M1 ⟨j, X, rs', hj, rfl, hXl, hrl, hX1, hX2, rfl, H⟩
  simp (disch := omega) only [go_sem, undef]
  refine condB_dec (fun hlt => ?_) (fun hlt => ?_)
  · have hlt : j < rs.length := by omega
    have hp := H.at 0 rfl
    have hb := dk_cell hp
    have hjf : X[j]? = some D.fl[j] := by rw [hX2 j (Nat.le_refl _)]; exact List.getElem?_eq_getElem (by omega)
    obtain ⟨y, hy⟩ : ∃ y, y = D.fl[j] := ⟨_, rfl⟩
    rw [← hy] at hjf
    have hym : y ∈ D.fl := by rw [hy]; exact List.getElem_mem _
    have hyk := hk y hym
    have hyl : y.b.length ≤ 500000000 := by
      have h1 := tot_take D.fl j y (by rw [hy]; exact List.getElem?_eq_getElem (by omega))
      have h2 := tot_le D.fl (j + 1)
      omega
    refine F2_at (i := j) (dk_row hp) (by omega) fun r y' hr1 hy' hR => ?_
    rw [show (⟨D.quota, X, false, false, 0⟩ : Dk).fl = X from rfl, hjf] at hy'
    cases hy'
    refine Own.rowK ((H.open3).at 1 rfl) (by omega) fun b cap tail efv hbb hll => ?_
    have ea : a2 = some ⟨b, 0, none⟩ := by injection efv
    have ec : c2 = cap := by injection efv
    subst ea ec
    have hE := RdS.elO (dk_rds hp) hrl hr1 (by decide)
    have hc1 := hE.cell 1 _ rfl
    have hc2 := hE.cell 2 _ rfl
    have hkk : r.2.2 = y.kept := hR.2.1
    rw [hkk] at hc2
    refine Exists.elim hR.2.2.1.form fun a3 hh => Exists.elim hh fun c3 ev => ?_
    rw [ev] at hc1
    have hRb := hR.2.2.1
    rw [ev] at hRb
    have hcn := crN_le (pkN ps j) y hyk
    obtain ⟨N, hN⟩ : ∃ N, N = crN (pkN ps j) y := ⟨_, rfl⟩
    have hct : crT (pkN ps j) y = ⟨y.name, y.b.take N, N⟩ := by rw [hN]; rfl
    rw [← hN] at hcn
    refine Exists.elim (RdS.cut (by decide) hRb 0 N (by omega) hcn) fun a' hh => Exists.elim hh fun c' hcr => ?_
    have hcc := hcr.1
    have hcb := hcr.2.1
    clear hh hcr
    rw [List.drop_zero, Nat.sub_zero] at hcb
    rw [Nat.sub_zero] at hcc
    have hcc : cutS 1 a3 c3 0 (N : Nat) = some (.slice a' N c') := hcc
    have hnl : (y.b.take N).length = N := by rw [List.length_take]; omega
    have hcl : RdB M1 (.slice a' N c') (y.b.take N) := hcb
    have hrem : ∀ p : Nat, ((p : Nat) : Int).tmod ((y.b.length : Nat) - ((y.kept : Nat) : Int) + 1) = ((p % (y.b.length - y.kept + 1) : Nat) : Int) := fun p => by
      rw [show ((y.b.length : Nat) : Int) - ((y.kept : Nat) : Int) + 1 = ((y.b.length - y.kept + 1 : Nat) : Int) from by omega]
      rfl
    have hjr : j < rs'.length := by omega
    simp (disch := omega) only [go_sem, undef, hb, dkC, rd_ixs, hrl]
    by_cases hpj : j < ps.length
    · have hpn := hpn (by intro e; rw [e] at hpj; simp at hpj)
      refine RdS.elK (hpv.st fun b hb => H.fr b (hpn b hb).2 (hpn b hb).1) hpj (by decide) fun bx o x hx hix hEx => ?_
      have hx0 : (ic x)[0]? = some (.int .i64 x) := rfl
      have hsum : ((y.kept : Nat) : Int) + ((pkN ps j % (y.b.length - y.kept + 1) : Nat) : Int) = ((N : Nat) : Int) := by rw [hN]; unfold crN; omega
      have hmx : max x 0 = ((pkN ps j : Nat) : Int) := by unfold pkN; rw [hx]; simp
      simp (disch := omega) only [go_sem, undef, dec_t (show ((j : Nat) : Int) < (ps.length : Nat) by omega), hix, hEx.ld0, hx0, hmx, hc1, hc2, rd_rem, hrem, hsum, rd_slc01, hcc]
      refine callN H (clone_s hcl (by omega)) fun u M A' eA f3 H => ?_
      subst eA
      refine Own.formK (H.at 0 rfl) fun a4 c4 e4 => ?_
      subst e4
      rw [hnl] at *
      simp (disch := omega) only [go_sem, undef, rd_ixs]
      have H := Hq.open3 (H.perm (List.Perm.swap ..))
      refine putFile (r' := (r.1, .slice a4 N c4, r.2.2)) (by rw [← hrl] at H; exact H.rot3) hr1 (by decide) rfl fun M f H => ?_
      have hset : (rs'.set j (r.1, .slice a4 N c4, r.2.2))[j]? = some (r.1, .slice a4 N c4, r.2.2) := by rw [List.getElem?_set_self (by omega)]
      have hE := RdS.elO (Own.rds (k := 3) (enc := rowE) (by decide) rowE_len (H.at 0 rfl)) (by rw [List.length_set]) hset (by decide)
      have hc := hE.cell 1 _ rfl
      simp (disch := omega) only [go_sem, undef, hc]
      refine putFile (r' := (r.1, .slice a4 N c4, N)) H hset (by decide) rfl fun M f H => ?_
      rw [List.set_set] at H
      have H := bs_put (i := j) (r := r) (r' := (r.1, .slice a4 N c4, N)) (f' := ⟨y.name, y.b.take N, N⟩) H.rev4 rfl rfl hR.1 rfl
      have H := Hq.close3 (D := ⟨D.quota, X.set j ⟨y.name, y.b.take N, N⟩, false, false, 0⟩) H.rot3'.rot3'
      rw [hrl] at H
      simp (disch := omega) only [go_sem, undef]
      refine handN_intro (rs.length - (j + 1)) (by omega) ⟨j + 1, X.set j ⟨y.name, y.b.take N, N⟩, rs'.set j (r.1, .slice a4 N c4, N), by omega, rfl, by rw [List.length_set, hXl], by rw [List.length_set, hrl], fun i hi => ?_, fun i hi => ?_, rfl, H⟩
      · by_cases hij : i = j
        · subst hij
          rw [List.getElem?_set_self (by omega)]
          unfold crL
          rw [List.getElem?_mapIdx, List.getElem?_eq_getElem (by omega), ← hy, Option.map_some, hct]
        · rw [List.getElem?_set_ne (by omega)]; exact hX1 i (by omega)
      · rw [List.getElem?_set_ne (by omega)]; exact hX2 i (by omega)
    · have hp0 : pkN ps j = 0 := by unfold pkN; rw [List.getElem?_eq_none (by omega)]; rfl
      have hN0 : y.kept = N := by rw [hN, hp0]; simp [crN]
      have hcc2 : cutS 1 a3 c3 0 (y.kept : Nat) = some (.slice a' N c') := by rw [hN0]; exact hcc
      simp (disch := omega) only [go_sem, undef, dec_f (show ¬ ((j : Nat) : Int) < (ps.length : Nat) by omega), hc1, hc2, rd_rem, Int.zero_tmod, Int.add_zero, rd_slc01, hcc2]
      refine callN H (clone_s hcl (by omega)) fun u M A' eA f3 H => ?_
      subst eA
      refine Own.formK (H.at 0 rfl) fun a4 c4 e4 => ?_
      subst e4
      rw [hnl] at *
      simp (disch := omega) only [go_sem, undef, rd_ixs]
      have H := Hq.open3 (H.perm (List.Perm.swap ..))
      refine putFile (r' := (r.1, .slice a4 N c4, r.2.2)) (by rw [← hrl] at H; exact H.rot3) hr1 (by decide) rfl fun M f H => ?_
      have hset : (rs'.set j (r.1, .slice a4 N c4, r.2.2))[j]? = some (r.1, .slice a4 N c4, r.2.2) := by rw [List.getElem?_set_self (by omega)]
      have hE := RdS.elO (Own.rds (k := 3) (enc := rowE) (by decide) rowE_len (H.at 0 rfl)) (by rw [List.length_set]) hset (by decide)
      have hc := hE.cell 1 _ rfl
      simp (disch := omega) only [go_sem, undef, hc]
      refine putFile (r' := (r.1, .slice a4 N c4, N)) H hset (by decide) rfl fun M f H => ?_
      rw [List.set_set] at H
      have H := bs_put (i := j) (r := r) (r' := (r.1, .slice a4 N c4, N)) (f' := ⟨y.name, y.b.take N, N⟩) H.rev4 rfl rfl hR.1 rfl
      have H := Hq.close3 (D := ⟨D.quota, X.set j ⟨y.name, y.b.take N, N⟩, false, false, 0⟩) H.rot3'.rot3'
      rw [hrl] at H
      simp (disch := omega) only [go_sem, undef]
      refine handN_intro (rs.length - (j + 1)) (by omega) ⟨j + 1, X.set j ⟨y.name, y.b.take N, N⟩, rs'.set j (r.1, .slice a4 N c4, N), by omega, rfl, by rw [List.length_set, hXl], by rw [List.length_set, hrl], fun i hi => ?_, fun i hi => ?_, rfl, H⟩
      · by_cases hij : i = j
        · subst hij
          rw [List.getElem?_set_self (by omega)]
          unfold crL
          rw [List.getElem?_mapIdx, List.getElem?_eq_getElem (by omega), ← hy, Option.map_some, hct]
        · rw [List.getElem?_set_ne (by omega)]; exact hX1 i (by omega)
      · rw [List.getElem?_set_ne (by omega)]; exact hX2 i (by omega)
  · have e : j = rs.length := by omega
    subst e
    have hX : X = crL ps D.fl := List.ext_getElem? fun i => by
      by_cases hi : i < rs.length
      · exact hX1 i hi
      · rw [List.getElem?_eq_none (by omega), List.getElem?_eq_none (by unfold crL; simp; omega)]
    subst hX
    simp (disch := omega) only [go_sem, undef]
    exact cm_done H
end Go.Fw

set_option linter.unusedSimpArgs false
set_option linter.unusedVariables false
namespace Go.Fw
open Go.Proofs
variable {m m0 M : Mem} {S : List Nat} {L : List As}
variable {rb wb : Nat} {fv : Value} {rs : List Row} {D : Dk}
theorem RdS.there {α : Type} {k : Nat} {enc : α → List Value} {v : Value} {l : List α} (h : RdS k enc m v l) (k0 : 0 < k) (hl : l ≠ []) : ∀ b ∈ blkOf v, m b ≠ none := by
  obtain ⟨hk, a, c, rfl, hc, hr⟩ := h
  intro b hb
  rcases hr with h0 | ⟨b', o, rfl, h⟩
  · have := fm_len hk l
    rw [h0] at this
    have := List.length_pos_iff.2 hl
    have : 0 < l.length * k := Nat.mul_pos this k0
    simp at *; omega
  · have hb : b = b' := by simpa [blkOf] using hb
    subst hb
    have hlen := fm_len hk l
    have hpos : 0 < (l.flatMap enc).length := by rw [hlen]; exact Nat.mul_pos (List.length_pos_iff.2 hl) k0
    have := h 0 _ (List.getElem?_eq_getElem hpos)
    intro e
    rw [e] at this
    simp [cellAt] at this
def okF (p : Bs) : Bool := decide (0 < p.length) && decide (p.length ≤ 1500)
def fewN : Nat → List Bs → List Bs
  | 0, _ => []
  | _, [] => []
  | n + 1, p :: r => if okF p then p :: fewN n r else fewN n r
def fewL (l : List Bs) : List Bs := (l.take 6).filter okF
theorem fewL_ok (l : List Bs) : (∀ p ∈ fewL l, okR p ∧ p.length ≤ 1500) ∧ (fewL l).length ≤ 6 := by
  refine ⟨fun p hp => ?_, ?_⟩
  · have h := (List.mem_filter.1 hp).2
    simp only [okF, Bool.and_eq_true, decide_eq_true_eq] at h
    exact ⟨⟨h.1, by omega⟩, h.2⟩
  · exact Nat.le_trans (List.length_filter_le ..) (by rw [List.length_take]; omega)
theorem flat_bound : ∀ (l : List Bs) (k : Nat), (∀ p ∈ l, p.length ≤ k) → l.flatten.length ≤ l.length * k
  | [], k, _ => by simp
  | p :: r, k, h => by
    have := flat_bound r k fun q hq => h q (List.mem_cons_of_mem _ hq)
    have := h p (List.mem_cons_self ..)
    rw [List.flatten_cons, List.length_append, List.length_cons, Nat.add_mul]; omega
set_option maxHeartbeats 4000000 in
theorem few_s {v : Value} {vs : List Value} {ls : List Bs} (hv : RdS 1 v1 m v vs) (hF : F2 (fun v l => RdB m v l) vs ls) (hn : vs.length ≤ 9223372036854775807) (hln : ∀ l ∈ ls, l.length ≤ 9223372036854775807) {R : Value → Bs → Prop} (hR : F2 R vs ls) :
    CN Tryd.prog n_law10_few [v] m fun u A => ∃ us, A = wnA u us ∧ F2 R us (fewL ls) := by
  obtain ⟨a, c, rfl⟩ := hv.form
  refine law10_few_go (by simp [Tryd.f33]) ?_
  have H := (Hq.refl m []).nilRow 31 1
  simp (disch := omega) only [go_sem, undef]
  refine loopQ_intro (fun k E m' => ∃ i w us, i ≤ vs.length ∧ i ≤ 6 ∧ k = vs.length - i ∧ us.length ≤ i ∧ F2 R us ((ls.take i).filter okF) ∧ E = [(0, .slice a vs.length c), (3, w), (4, .int .i64 (i : Nat))] ∧ Hq m m' [] [wnA w us]) vs.length rfl ⟨0, .slice none 0 0, [], by omega, by omega, by omega, by simp, .nil, rfl, H⟩ ?_
  clear H
  rintro k E M1 ⟨i, w, us, hi1, hi2, rfl, hus, hU, rfl, H⟩
  have hll := F2_len hF
  have hfin : ¬ (i < vs.length ∧ i < 6) → (ls.take i).filter okF = fewL ls := fun h => by
    unfold fewL
    by_cases h6 : i = 6
    · rw [h6]
    · rw [List.take_of_length_le (show ls.length ≤ i by omega), List.take_of_length_le (show ls.length ≤ 6 by omega)]
  by_cases h1 : i < vs.length
  · by_cases h2 : i < 6
    · refine F2_at hF h1 fun x0 x hx0 hx hX => ?_
      refine RdS.elK (hv.frame H.fr) h1 (by decide) fun bx o x' hx' hix hE => ?_
      rw [hx0] at hx'
      cases hx'
      have hRx := F2_get hR hx0 hx
      refine Exists.elim hX.form fun a3 hh => Exists.elim hh fun c3 ev => ?_
      subst ev
      have hxl := hln x (List.mem_of_getElem? hx)
      have hsn : (ls.take (i + 1)).filter okF = (ls.take i).filter okF ++ if okF x then [x] else [] := by
        rw [List.take_add_one, hx, Option.toList_some, List.filter_append]
        congr 1
        by_cases h : okF x = true <;> simp [h]
      have hlt1 := dec_t (show ((i : Nat) : Int) < (vs.length : Nat) by omega)
      by_cases hp : 0 < x.length
      · by_cases hq : x.length ≤ 1500
        · have hok : okF x = true := by simp [okF, hp, hq]
          rw [if_pos hok] at hsn
          simp (disch := omega) only [go_sem, undef, dec_t (show ((i : Nat) : Int) < (vs.length : Nat) by omega), dec_t (show ((i : Nat) : Int) < 6 by omega), hix, hE.ld0, dec_t (show ((x.length : Nat) : Int) > 0 by omega), dec_t (show ((x.length : Nat) : Int) ≤ 1500 by omega)]
          refine newQ H fun b2 M f2 H => ?_
          simp (disch := omega) only [go_sem, undef]
          refine appQ1 H (k := 1) rfl (ldS_cell (l := [_]) H.cs.1 (by simp)) rfl (by simp [Value.oneCell']) rfl (by omega) (by omega) fun w3 M f H => ?_
          have H : Hq m M [] [wnA w3 (us ++ [.slice a3 x.length c3])] := by
            have e : wnA w3 (us ++ [.slice a3 x.length c3]) = ownA 31 1 w3 (us.length + 1) (us.flatMap v1 ++ [.slice a3 x.length c3]) := by rw [wnA, List.length_append, List.flatMap_append]; rfl
            rw [e]
            exact H.tail
          simp (disch := omega) only [go_sem, undef]
          exact handN_intro (vs.length - (i + 1)) (by omega) ⟨i + 1, w3, us ++ [.slice a3 x.length c3], by omega, by omega, rfl, by rw [List.length_append]; simp; omega, by rw [hsn]; exact F2_snoc2 hU hRx, rfl, H⟩
        · have hok : ¬ okF x = true := by simp [okF, hp, hq]
          rw [if_neg hok, List.append_nil] at hsn
          simp (disch := omega) only [go_sem, undef, dec_t (show ((i : Nat) : Int) < (vs.length : Nat) by omega), dec_t (show ((i : Nat) : Int) < 6 by omega), hix, hE.ld0, dec_t (show ((x.length : Nat) : Int) > 0 by omega), dec_f (show ¬ ((x.length : Nat) : Int) ≤ 1500 by omega)]
          exact handN_intro (vs.length - (i + 1)) (by omega) ⟨i + 1, w, us, by omega, by omega, rfl, by omega, by rw [hsn]; exact hU, rfl, H⟩
      · have hok : ¬ okF x = true := by simp [okF, hp]
        rw [if_neg hok, List.append_nil] at hsn
        simp (disch := omega) only [go_sem, undef, dec_t (show ((i : Nat) : Int) < (vs.length : Nat) by omega), dec_t (show ((i : Nat) : Int) < 6 by omega), hix, hE.ld0, dec_f (show ¬ ((x.length : Nat) : Int) > 0 by omega)]
        exact handN_intro (vs.length - (i + 1)) (by omega) ⟨i + 1, w, us, by omega, by omega, rfl, by omega, by rw [hsn]; exact hU, rfl, H⟩
    · simp (disch := omega) only [go_sem, undef, dec_t (show ((i : Nat) : Int) < (vs.length : Nat) by omega), dec_f (show ¬ ((i : Nat) : Int) < 6 by omega)]
      rw [hfin (fun h => h2 h.2)] at hU
      exact ⟨_, ⟨us, rfl, hU⟩, H.hs.1, H.fr, fun b hb => (H.done.2.2 b hb).resolve_left (by simp)⟩
  · simp (disch := omega) only [go_sem, undef, dec_f (show ¬ ((i : Nat) : Int) < (vs.length : Nat) by omega)]
    rw [hfin (fun h => h1 h.1)] at hU
    exact ⟨_, ⟨us, rfl, hU⟩, H.hs.1, H.fr, fun b hb => (H.done.2.2 b hb).resolve_left (by simp)⟩
end Go.Fw

set_option linter.unusedSimpArgs false
set_option linter.unusedVariables false
namespace Go.Fw
open Go.Proofs
variable {m m0 M : Mem} {S : List Nat} {L : List As}
variable {rb wb : Nat} {fv : Value} {rs : List Row} {D : Dk}
/-- a call of the law, as it came in -/
structure AkV where
  kind : Int
  n : Int
  rv : Value
  pv : Value
  vs : List Value
  ls : List Bs
  ps : List Int
def akE (a : AkV) : List Value := [.int .i64 a.kind, .int .i64 a.n, a.rv, a.pv]
theorem akE_len (a : AkV) : (akE a).length = 4 := rfl
structure AkOk (m : Mem) (a : AkV) : Prop where
  kind : R64i a.kind
  n : R64i a.n
  rv : RdS 1 v1 m a.rv a.vs
  vs : F2 (fun v l => RdB m v l) a.vs a.ls
  vl : a.vs.length ≤ 9223372036854775807
  ll : ∀ l ∈ a.ls, l.length ≤ 9223372036854775807
  pv : RdS 1 ic m a.pv a.ps
  ps : ∀ x ∈ a.ps, R64i x
  pl : a.ps.length ≤ 9223372036854775807
theorem add_k {g n : Nat} {segs recs l : List Bs} {lv : Value} {vs : List Value} (h : (wlA wb rb fv rs ⟨g, segs.length, false⟩ D).p m) (ok : Okd D) (G : Gen D.fl g segs) (R : SegR segs n recs) (hg0 : 0 < g) (hg : g < 100) (hK : segs.length < 98) (hpos : 0 < segs.length)
    (hv : RdS 1 v1 m lv vs) (hF : F2 (fun v l => RdB m v l) vs l) (hok : ∀ p ∈ l, okR p) (hlt : l.flatten.length ≤ 100000000) (hvl : vs.length ≤ 1000000) (hT : tot D.fl ≤ 5000000) (hl : D.left ≤ 1000000000000) (hq : D.quota ≤ 500000000) (hr : tot D.fl + (frs l).length ≤ D.quota) :
    CM Tryd.prog n_wal_Wal_Add [lpD wb, lv] m (wlA wb rb fv rs ⟨g, segs.length, false⟩ D) fun u A => ∃ fv rs F segs', u = .int .i64 0 ∧ A = wlA wb rb fv rs ⟨g, segs'.length, false⟩ { D with fl := F } ∧ Gen F g segs' ∧ SegR segs' n (recs ++ l) ∧ tot F ≤ tot D.fl + (frs l).length ∧ 0 < segs'.length ∧ segs'.length ≤ segs.length + 1 := by
  by_cases hl0 : l = []
  · subst hl0
    have hlen := G.len
    have e : addF [] ⟨g, segs.length, false⟩ D = (⟨g, segs.length, false⟩, D, 0) := by
      unfold addF; rw [if_neg (by simp), if_neg (by simp only; omega), if_pos rfl]
    have := add_s h hg (by simp only; omega) hv hF hok hvl hlt (by omega) hl (by omega) hq
    rw [e] at this
    exact this.mono fun u M ⟨A, ⟨e1, fv, rs, e2⟩, h2⟩ => ⟨A, ⟨fv, rs, D.fl, segs, e1, e2, G, by rw [List.append_nil]; exact R, by omega, hpos, by omega⟩, h2⟩
  · exact (add_g h ok G R hg0 hg hK hpos hl0 hv hF hok hlt hvl hT hl hq hr).mono fun u M ⟨A, ⟨fv, rs, F, segs', e1, e2, G2, R2, ht, es⟩, h2⟩ =>
      ⟨A, ⟨fv, rs, F, segs', e1, e2, G2, R2, by omega, by rw [es]; split <;> simp, by rw [es]; split <;> simp <;> omega⟩, h2⟩
/-- where all is kept a crash takes nothing -/
theorem crF_kept {D : Dk} (ps : List Int) (ok : Okd D) (hl : D.left = 0) (hk : ∀ f ∈ D.fl, f.kept = f.b.length) : crF ps D = D := by
  have e : crL ps D.fl = D.fl := List.ext_getElem? fun i => by
    unfold crL
    rw [List.getElem?_mapIdx]
    cases h : D.fl[i]? with
    | none => rfl
    | some f =>
      have := hk f (List.mem_of_getElem? h)
      simp only [Option.map_some, Option.some.injEq]
      obtain ⟨nm, b, k⟩ := f
      simp only at this
      subst this
      simp [crT, crN, Nat.mod_one]
  obtain ⟨q, fl, off, armed, left⟩ := D
  have h1 := ok.off
  have h2 := ok.arm
  simp only at h1 h2 hl
  subst h1 h2 hl
  unfold crF
  rw [e]
theorem Gen.kb {fl : List Fl} {g : Nat} {segs : List Bs} (G : Gen fl g segs) : ∀ x ∈ fl, x.kept = x.b.length := fun x hx => by
  obtain ⟨k, hk, e⟩ := G.only x hx
  have h1 := mem_look G.srt hx
  rw [e, G.seg k hk] at h1
  cases h1
  rfl
theorem wn_one {us : List Value} {l : List Bs} (h : F2 (fun v l => RdB m v l) us l) : ∀ v ∈ us.flatMap v1, v.oneCell' = true := fun v hv => by
  obtain ⟨x, hx, hv⟩ := List.mem_flatMap.1 hv
  have hvx : v = x := by simpa [v1] using hv
  subst hvx
  have h2 : F2 (fun x y => True ∧ x.oneCell' = true) us l := F2_imp h fun x _ y hy => ⟨trivial, one_of hy⟩
  exact F2_mem (Q := fun x => x.oneCell' = true) h2 v hx
theorem wn_app {w : Value} {us ms : List Value} : ownA 31 1 w (us.length + ms.length) (us.flatMap v1 ++ ms.flatMap v1) = wnA w (us ++ ms) := by rw [wnA, List.length_append, List.flatMap_append]
set_option maxHeartbeats 32000000 in
theorem walKeeps_s {v : Value} {ak : List AkV} (hv : RdS 4 akE m v ak) (hA : ∀ a ∈ ak, AkOk m a) (hn : ak.length ≤ 9223372036854775807) :
    MC Tryd.prog n_law10_WalKeeps [v] m fun u M => u = .bool true ∧ Fr m M [] := by
  have hn1 : ∀ b : Nat, (some (⟨b, 0, none⟩ : Addr)).isNone = false := fun _ => rfl
  have nc0 : ((0 : Nat) : Int) = 0 := rfl
  obtain ⟨av, cv, rfl⟩ := hv.form
  obtain ⟨Q, hQ⟩ : ∃ Q, Q = 1048576 := ⟨_, rfl⟩
  have hcQ : (1048576 : Int) = ((Q : Nat) : Int) := by rw [hQ]; rfl
  refine law10_WalKeeps_go (by simp [Tryd.f33]) ?_
  have H := Hq.refl m []
  simp (disch := omega) only [go_sem, undef, hcQ]
  refine callN H (disk_New_s Q (by omega)) fun u M A' hR f H => ?_
  obtain ⟨rb, rfl, rfl⟩ := hR
  simp (disch := omega) only [go_sem, undef]
  refine callA0 H (open_0 (H.at 0 rfl) rfl (by simp)) fun u M A' hR f H => ?_
  obtain ⟨wb, w0, vs0, fv, rs, rfl, rfl⟩ := hR
  have H := H.split.tail
  have hok0 : Okd (dq Q []) := ⟨rfl, rfl, gen_nil.srt⟩
  have hl0 := hdR_len []
  have hl0 : (hdR []).length ≤ 16 := hl0
  simp (disch := omega) only [go_sem, undef, hn1]
  refine callA0 H (anew_g (g := 0) (segs := []) (l := []) (H.at 0 rfl) hok0 gen_nil (by decide) (by decide) (RdS.nil v1_len M) .nil (by decide) (by decide) (by decide) (by simp [tot]) (by simp) (by simp only; omega) (by simp [tot]; omega)) fun u M A' hR f H => ?_
  obtain ⟨fv, rs, F, rfl, rfl, G, R, ht⟩ := hR
  have ht : tot F ≤ 20 := by simp [tot] at ht; simp [tot]; omega
  simp (disch := omega) only [go_sem, undef]
  have H := H.nilRow 31 1
  refine loopQ_intro (fun k E m' => ∃ i w us recs segs F fv rs n g wb, i ≤ ak.length ∧ i ≤ 20 ∧ k = ak.length - i ∧ tot F ≤ 20 + 9100 * i ∧ 0 < g ∧ g ≤ 1 + i ∧ 0 < segs.length ∧ segs.length ≤ 1 + i ∧ Gen F g segs ∧ SegR segs n recs ∧ us.length ≤ 6 * i ∧ F2 (fun v l => RdB m v l) us recs ∧ E = [(0, .slice av ak.length cv), (3, lpD rb), (5, lpD wb), (8, w), (9, .int .i64 (i : Nat))] ∧
      Hq m m' [] [wnA w us, wlA wb rb fv rs ⟨g, segs.length, false⟩ (dq Q F)]) ak.length rfl ⟨0, .slice none 0 0, [], [], _, F, fv, rs, _, 0 + 1, wb, by omega, by omega, by omega, by omega, by omega, by omega, by simp, by simp, G, R, by simp, .nil, rfl, H⟩ ?_
  clear H f G R ht
  rintro k E M1 ⟨i, w, us, recs, segs, F, fv, rs, n, g, wb, hi1, hi2, rfl, ht, hg0, hg, hK0, hK, G, R, hus, hU, rfl, H⟩
  have hD : Okd (dq Q F) := ⟨rfl, rfl, G.srt⟩
  have hgo : i < ak.length ∧ i < 20 ∨ ¬ (i < ak.length ∧ i < 20) := Classical.em _
  rcases hgo with ⟨h1, h2⟩ | hend
  · simp (disch := omega) only [go_sem, undef, dec_t (show ((i : Nat) : Int) < (ak.length : Nat) by omega), dec_t (show ((i : Nat) : Int) < 20 by omega)]
    refine RdS.elK hv h1 (by decide) fun bx o x hx hix hE0 => ?_
    have hok := hA x (List.mem_of_getElem? hx)
    have hE := hE0.frame H.fr
    refine Exists.elim hok.pv.form fun pa hh => Exists.elim hh fun pc epv => ?_
    have hc0 : cellAt (M1 bx) o = some (.int .i64 x.kind) := hE.cell 0 _ rfl
    have hc2 := hE.cell 2 _ rfl
    have hc3 := hE.cell 3 _ rfl
    rw [epv] at hc3
    have hpl := hok.pl
    by_cases hlong : x.ps.length > 20
    · simp (disch := omega) only [go_sem, undef, hix, hc3, dec_t (show ((x.ps.length : Nat) : Int) > 20 by omega)]
      exact handN_intro (ak.length - (i + 1)) (by omega) ⟨i + 1, w, us, recs, segs, F, fv, rs, n, g, wb, by omega, by omega, rfl, by omega, hg0, by omega, hK0, by omega, G, R, by omega, hU, rfl, H⟩
    simp (disch := omega) only [go_sem, undef, hix, hc0, hc2, hc3, dec_f (show ¬ ((x.ps.length : Nat) : Int) > 20 by omega)]
    refine callN H (few_s (hok.rv.frame H.fr) (F2_imp hok.vs fun _ _ _ h => h.frame H.fr) hok.vl hok.ll hok.vs) fun u M A' hR f H => ?_
    refine Exists.elim hR fun ms hh => ?_
    obtain ⟨eA, hM⟩ := hh
    subst eA
    have hfo := fewL_ok x.ls
    have hml := F2_len hM
    have hfb := flat_bound (fewL x.ls) 1500 fun p hp => (hfo.1 p hp).2
    have hfk : ∀ p ∈ fewL x.ls, okR p := fun p hp => (hfo.1 p hp).1
    have hfl : (fewL x.ls).flatten.length ≤ 9000 := by omega
    have hfr : (frs (fewL x.ls)).length ≤ 9036 := by rw [frs_len]; omega
    have hhd := hdR_len (fewL x.ls)
    have hfn := hfo.2
    clear hfo hfb hR
    refine Exists.elim (⟨_, rfl⟩ : ∃ l, l = fewL x.ls) fun l hl => ?_
    rw [← hl] at hM hfk hfl hfr hhd hfn hml
    have hE := hE0.frame H.fr
    have hc0 : cellAt (M bx) o = some (.int .i64 x.kind) := hE.cell 0 _ rfl
    have hc2 := hE.cell 2 _ rfl
    have hc3 := hE.cell 3 _ rfl
    rw [epv] at hc3
    simp (disch := omega) only [go_sem, undef, hix, hc0]
    refine Own.formK (H.at 0 rfl) fun ma mc eu => ?_
    subst eu
    by_cases hk1 : x.kind = 1
    · simp (disch := omega) only [go_sem, undef, dec_t hk1]
      refine callA2 H (add_k (H.at 2 rfl) hD G R hg0 (by omega) (by omega) hK0 (Own.rds (k := 1) (enc := v1) (by decide) v1_len (H.at 0 rfl)) (F2_imp hM fun _ _ _ h => h.frame H.fr) hfk (by omega) (by omega) (by simp only; omega) (by simp) (by simp only; omega) (by simp only; omega)) fun u M A' hR f H => ?_
      refine Exists.elim hR fun fv2 hh => Exists.elim hh fun rs2 hh => Exists.elim hh fun F2 hh => Exists.elim hh fun segs2 hh => ?_
      obtain ⟨eu, eA, G2, R2, ht2, hp2, hs2⟩ := hh
      subst eu eA
      clear hh hR
      have ht2 : tot F2 ≤ tot F + (frs l).length := ht2
      simp (disch := omega) only [go_sem, undef]
      refine appQ1 H (k := ms.length) rfl (ldS_of (Own.rds (k := 1) (enc := v1) (by decide) v1_len (H.at 0 rfl))) (fm_len v1_len ms) (wn_one hM) rfl (by omega) (by omega) fun w3 M f H => ?_
      rw [wn_app] at H
      simp (disch := omega) only [go_sem, undef]
      exact handN_intro (ak.length - (i + 1)) (by omega) ⟨i + 1, w3, us ++ ms, recs ++ l, segs2, F2, fv2, rs2, n, g, wb, by omega, by omega, rfl, by omega, hg0, by omega, hp2, by omega, G2, R2, by rw [List.length_append]; omega, F2_append hU hM, rfl, H.tail⟩
    by_cases hk2 : x.kind = 2
    · simp (disch := omega) only [go_sem, undef, dec_f hk1, dec_t hk2]
      refine callA2 H (anew_g (H.at 2 rfl) hD G (by omega) (by omega) (Own.rds (k := 1) (enc := v1) (by decide) v1_len (H.at 0 rfl)) (F2_imp hM fun _ _ _ h => h.frame H.fr) hfk (by omega) (by omega) (by simp only; omega) (by simp) (by simp only; omega) (by simp only; omega)) fun u M A' hR f H => ?_
      refine Exists.elim hR fun fv2 hh => Exists.elim hh fun rs2 hh => Exists.elim hh fun F2 hh => ?_
      obtain ⟨eu, eA, G2, R2, ht2⟩ := hh
      subst eu eA
      clear hh hR
      have ht2 : tot F2 ≤ tot F + (hdR l).length := ht2
      have hq1 : 0 < ([hdR l] : List Bs).length := by simp
      have hq2 : ([hdR l] : List Bs).length ≤ 1 + (i + 1) := by simp
      simp (disch := omega) only [go_sem, undef]
      refine newQ H fun b2 M f2 H => ?_
      simp (disch := omega) only [go_sem, undef]
      have H := H.toRow (l := []) 1 0 0 rfl (by omega)
      simp only [Nat.zero_mul, List.take_zero] at H
      refine appQ0 H (k := ms.length) rfl (ldS_of (Own.rds (k := 1) (enc := v1) (by decide) v1_len (H.at 1 rfl))) (fm_len v1_len ms) (wn_one hM) rfl (by omega) (by omega) fun w3 M f H => ?_
      rw [Nat.zero_add, List.nil_append] at H
      have H : Hq m M [] [wnA w3 ms, wnA (.slice ma ms.length mc) ms, wnA w us, wlA wb rb fv2 rs2 ⟨g + 1, 1, false⟩ (dq Q F2)] := H
      simp (disch := omega) only [go_sem, undef]
      exact handN_intro (ak.length - (i + 1)) (by omega) ⟨i + 1, w3, ms, l, [hdR l], F2, fv2, rs2, l.length, g + 1, wb, by omega, by omega, rfl, by omega, by omega, by omega, hq1, hq2, G2, R2, by omega, hM, rfl, (H.drop 1).drop 1⟩
    by_cases hk3 : x.kind = 3
    · simp (disch := omega) only [go_sem, undef, dec_f hk1, dec_f hk2, dec_t hk3, hix, hc0]
      have H : Hq m M [] [wnA (.slice ma ms.length mc) ms, wnA w us, wcA wb rb ⟨g, segs.length, false⟩, dkA rb fv rs (dq Q F)] := (H.rot3'.split).perm (List.perm_append_comm (l₁ := [wnA (.slice ma ms.length mc) ms, wnA w us]) (l₂ := [wcA wb rb ⟨g, segs.length, false⟩, dkA rb fv rs (dq Q F)]))
      refine callA3 H (open_g (H.at 3 rfl) hD G R hg0 (by omega) (by omega) (by simp only; omega) (by simp)) fun u M A' hR f H => ?_
      refine Exists.elim hR fun wb2 hh => Exists.elim hh fun w2 hh => Exists.elim hh fun vs2 hh => Exists.elim hh fun fv2 hh => Exists.elim hh fun rs2 hh => Exists.elim hh fun F2 hh => ?_
      obtain ⟨eu, eA, G2, ht2⟩ := hh
      subst eu eA
      clear hh hR
      have ht2 : tot F2 = tot F := ht2
      have H := ((H.drop 2).tail.perm (List.Perm.swap ..)).split
      have H : Hq m M [] [rbA w2 vs2 recs, wlA wb2 rb fv2 rs2 ⟨g, segs.length, false⟩ (dq Q F2), wnA w us] := H
      have hrb := H.at 0 rfl
      have hwn := H.at 2 rfl
      have hrok : ∀ p ∈ recs, p.length ≤ 1000000000 := by
        refine Exists.elim R fun ls2 hh => ?_
        exact fun p hp => Nat.le_trans (hh.2.2.2.1 p hp).2 (by decide)
      have hvl2 := F2_len hrb.2
      have hul2 := F2_len hU
      simp (disch := omega) only [go_sem, undef, hn1]
      refine callQ H (lists_s hrb.1.1 (F2_imp hrb.2 fun _ _ _ h => h.1) (Own.rds (k := 1) (enc := v1) (by decide) v1_len hwn) (F2_imp hU fun _ _ _ h => h.frame H.fr) hrok hrok (by omega) (by omega)) fun M f2 H => ?_
      simp (disch := omega) only [go_sem, undef, decide_eq_true (rfl : recs = recs)]
      exact handN_intro (ak.length - (i + 1)) (by omega) ⟨i + 1, w, us, recs, segs, F2, fv2, rs2, n, g, wb2, by omega, by omega, rfl, by omega, hg0, by omega, hK0, by omega, G2, R, by omega, hU, rfl, H.tail.perm (List.Perm.swap ..)⟩
    by_cases hk5 : x.kind = 5
    · simp (disch := omega) only [go_sem, undef, dec_f hk1, dec_f hk2, dec_f hk3, dec_t hk5, hix, hc0, hc3]
      have H : Hq m M [] [wnA (.slice ma ms.length mc) ms, wnA w us, wcA wb rb ⟨g, segs.length, false⟩, dkA rb fv rs (dq Q F)] := (H.rot3'.split).perm (List.perm_append_comm (l₁ := [wnA (.slice ma ms.length mc) ms, wnA w us]) (l₂ := [wcA wb rb ⟨g, segs.length, false⟩, dkA rb fv rs (dq Q F)]))
      have hpv := hok.pv
      rw [epv] at hpv
      have hcr := crash_s (H.at 3 rfl) x.ps (hpv.frame H.fr) hok.ps (fun hne b hb => ⟨fun h => (H.nw _ (by simp) b h).elim (hpv.there (by decide) hne b hb) (by simp), H.fr.some (hpv.there (by decide) hne b hb) (by simp)⟩) (by omega) (by have := G.len; simp only; omega) (by simp only; omega) (fun f hf => by rw [G.kb f hf]; exact Nat.le_refl _)
      rw [crF_kept x.ps hD rfl G.kb] at hcr
      refine callA3 H hcr fun u M A' hR f H => ?_
      refine Exists.elim hR.2 fun fv1 hh => Exists.elim hh fun rs1 eA => ?_
      have eu := hR.1
      subst eu eA
      clear hh hR
      simp (disch := omega) only [go_sem, undef]
      refine callA3 H (open_g (H.at 3 rfl) hD G R hg0 (by omega) (by omega) (by simp only; omega) (by simp)) fun u M A' hR f H => ?_
      refine Exists.elim hR fun wb2 hh => Exists.elim hh fun w2 hh => Exists.elim hh fun vs2 hh => Exists.elim hh fun fv2 hh => Exists.elim hh fun rs2 hh => Exists.elim hh fun F2 hh => ?_
      obtain ⟨eu, eA, G2, ht2⟩ := hh
      subst eu eA
      clear hh hR
      have ht2 : tot F2 = tot F := ht2
      have H := ((H.drop 2).tail.perm (List.Perm.swap ..)).split
      have H : Hq m M [] [rbA w2 vs2 recs, wlA wb2 rb fv2 rs2 ⟨g, segs.length, false⟩ (dq Q F2), wnA w us] := H
      have hrb := H.at 0 rfl
      have hwn := H.at 2 rfl
      have hrok : ∀ p ∈ recs, p.length ≤ 1000000000 := by
        refine Exists.elim R fun ls2 hh => ?_
        exact fun p hp => Nat.le_trans (hh.2.2.2.1 p hp).2 (by decide)
      have hvl2 := F2_len hrb.2
      have hul2 := F2_len hU
      simp (disch := omega) only [go_sem, undef, hn1]
      refine callQ H (lists_s hrb.1.1 (F2_imp hrb.2 fun _ _ _ h => h.1) (Own.rds (k := 1) (enc := v1) (by decide) v1_len hwn) (F2_imp hU fun _ _ _ h => h.frame H.fr) hrok hrok (by omega) (by omega)) fun M f2 H => ?_
      simp (disch := omega) only [go_sem, undef, decide_eq_true (rfl : recs = recs)]
      exact handN_intro (ak.length - (i + 1)) (by omega) ⟨i + 1, w, us, recs, segs, F2, fv2, rs2, n, g, wb2, by omega, by omega, rfl, by omega, hg0, by omega, hK0, by omega, G2, R, by omega, hU, rfl, H.tail.perm (List.Perm.swap ..)⟩
    simp (disch := omega) only [go_sem, undef, dec_f hk1, dec_f hk2, dec_f hk3, dec_f hk5]
    exact handN_intro (ak.length - (i + 1)) (by omega) ⟨i + 1, w, us, recs, segs, F, fv, rs, n, g, wb, by omega, by omega, rfl, by omega, hg0, by omega, hK0, by omega, G, R, by omega, hU, rfl, H.tail⟩
  · by_cases hil : i < ak.length
    · simp (disch := omega) only [go_sem, undef, dec_t (show ((i : Nat) : Int) < (ak.length : Nat) by omega), dec_f (show ¬ ((i : Nat) : Int) < 20 by omega)]
      refine callQ H walRuns_s fun M f3 H => ?_
      simp (disch := omega) only [go_sem, undef]
      exact ⟨rfl, H.fr⟩
    · simp (disch := omega) only [go_sem, undef, dec_f (show ¬ ((i : Nat) : Int) < (ak.length : Nat) by omega)]
      refine callQ H walRuns_s fun M f3 H => ?_
      simp (disch := omega) only [go_sem, undef]
      exact ⟨rfl, H.fr⟩
end Go.Fw

set_option linter.unusedVariables false
set_option linter.unusedSimpArgs false
namespace Go.Fw
open Go.RowKit Go.ChangeShapes Go.WideShapes
open Go.Proofs
/-- the calls of the law that came in -/
theorem trod_ask {H : Type} {enc : TypeId × Value → H} {W : World} {base : Nat} {held : Bool} {fuel : Nat} {cs : List Value} {x : DataW H × List MemPlace} (hf : DataW.trod enc Tryd.prog W base (fun _ => true) held fuel 43 cs = some x) : ∃ a, cs = akE a ∧ AkOk (absM W) a := by
  obtain ⟨xs, n, _, _, hlen, hxs, hg⟩ := DataW.trod_struct Tryd.underlying43 hf
  have hlen : cs.length = 4 := hlen.trans (by kernel_rfl)
  have hxs : xs.length = 4 := hxs
  obtain ⟨c0, c1, c2, c3, rfl⟩ : ∃ c0 c1 c2 c3, cs = [c0, c1, c2, c3] := by
    rcases cs with _ | ⟨c0, _ | ⟨c1, _ | ⟨c2, _ | ⟨c3, _ | ⟨c4, r⟩⟩⟩⟩⟩ <;> simp at hlen
    exact ⟨_, _, _, _, rfl⟩
  obtain ⟨x0, x1, x2, x3, rfl⟩ : ∃ c0 c1 c2 c3, xs = [c0, c1, c2, c3] := by
    rcases xs with _ | ⟨c0, _ | ⟨c1, _ | ⟨c2, _ | ⟨c3, _ | ⟨c4, r⟩⟩⟩⟩⟩ <;> simp at hxs
    exact ⟨_, _, _, _, rfl⟩
  · skip
    have g0 := hg 0 _ rfl
    have g1 := hg 1 _ rfl
    have g2 := hg 2 _ rfl
    have g3 := hg 3 _ rfl
    have e0 : Tryd.prog.cellsOf 3 = 1 := by kernel_rfl
    have e2 : Tryd.prog.cellsOf 27 = 1 := by kernel_rfl
    have e3 : Tryd.prog.cellsOf 41 = 1 := by kernel_rfl
    have g0 : DataW.trod enc Tryd.prog W base (fun _ => true) held n 3 (([c0, c1, c2, c3].drop 0).take (Tryd.prog.cellsOf 3)) = some x0 := g0
    have g1 : DataW.trod enc Tryd.prog W base (fun _ => true) held n 3 (([c0, c1, c2, c3].drop 1).take (Tryd.prog.cellsOf 3)) = some x1 := g1
    have g2 : DataW.trod enc Tryd.prog W base (fun _ => true) held n 27 (([c0, c1, c2, c3].drop 2).take (Tryd.prog.cellsOf 27)) = some x2 := g2
    have g3 : DataW.trod enc Tryd.prog W base (fun _ => true) held n 41 (([c0, c1, c2, c3].drop 3).take (Tryd.prog.cellsOf 41)) = some x3 := g3
    rw [e0] at g0 g1
    rw [e2] at g2
    rw [e3] at g3
    have g0 : DataW.trod enc Tryd.prog W base (fun _ => true) held n 3 [c0] = some x0 := g0
    have g1 : DataW.trod enc Tryd.prog W base (fun _ => true) held n 3 [c1] = some x1 := g1
    have g2 : DataW.trod enc Tryd.prog W base (fun _ => true) held n 27 [c2] = some x2 := g2
    have g3 : DataW.trod enc Tryd.prog W base (fun _ => true) held n 41 [c3] = some x3 := g3
    obtain ⟨k, ek, hk⟩ := trod_int1 Tryd.underlying3 g0
    obtain ⟨n', en, hn⟩ := trod_int1 Tryd.underlying3 g1
    obtain ⟨v, vs, ls, ev, h1, h2, h3, h4⟩ := trod_byteRows Tryd.underlying27 Tryd.underlying31 Tryd.underlying5 (by kernel_rfl) (by kernel_rfl) g2
    obtain ⟨pv, ps, ep, h5, h6, h7⟩ := trod_ints Tryd.underlying41 Tryd.underlying3 (by kernel_rfl) g3
    cases ek; cases en; cases ev; cases ep
    exact ⟨⟨k, n', c2, c3, vs, ls, ps⟩, rfl, hk, hn, h1, h2, h3, h4, h5, h6, h7⟩
end Go.Fw
