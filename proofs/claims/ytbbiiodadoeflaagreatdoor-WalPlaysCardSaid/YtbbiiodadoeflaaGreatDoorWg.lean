import Derived.Test.YtbbiiodadoeflaaGreatDoorWf
set_option linter.unusedVariables false
set_option linter.unusedSimpArgs false
namespace Go.Fw
open Go.Proofs
variable {m m0 M : Mem} {S : List Nat} {L : List As}
variable {rb wb : Nat} {fv : Value} {rs : List Row} {D : Dk}
/-! the power comes again -/
def ic (n : Int) : List Value := [.int .i64 n]
def pkN (ps : List Int) (i : Nat) : Nat := ((ps[i]?).getD 0).toNat
def crN (p : Nat) (f : Fl) : Nat := f.kept + p % (f.b.length - f.kept + 1)
def crT (p : Nat) (f : Fl) : Fl := ⟨f.name, f.b.take (crN p f), crN p f⟩
def crL (ps : List Int) (l : List Fl) : List Fl := l.mapIdx fun i f => crT (pkN ps i) f
def crF (ps : List Int) (D : Dk) : Dk := ⟨D.quota, crL ps D.fl, false, false, 0⟩
theorem crN_le (p : Nat) (f : Fl) (h : f.kept ≤ f.b.length) : crN p f ≤ f.b.length := by
  have := Nat.mod_lt p (show 0 < f.b.length - f.kept + 1 by omega)
  unfold crN; omega
set_option maxHeartbeats 8000000 in
theorem crash_s (h : (dkA rb fv rs D).p m) (ps : List Int) {pv : Value} (hpv : RdS 1 ic m pv ps) (hpr : ∀ x ∈ ps, R64i x) (hpn : ps ≠ [] → ∀ b ∈ blkOf pv, b ∉ (dkA rb fv rs D).wp ∧ m b ≠ none) (hpl : ps.length ≤ 1000000) (hn : D.fl.length ≤ 1000000) (hT : tot D.fl ≤ 500000000) (hk : ∀ f ∈ D.fl, f.kept ≤ f.b.length) :
    CM Tryz.prog n_disk_Disk_Crash [lpD rb, pv] m (dkA rb fv rs D) (DkR rb (crF ps D) (.tuple #[])) := by
  have H := Hq.one h
  obtain ⟨a, c, rfl⟩ := hpv.form
  have hb := dk_cell h
  have hlen := dk_len h
  refine disk_Disk_Crash_go (by simp [Tryz.f33]) ?_
  simp (disch := omega) only [go_sem, undef, hb, dkC]
  refine wrQ0 H.dk fun M f H => ?_
  have H := Hq.kd (l := dkC fv { D with off := false }) (D := D) { D with off := false } H rfl rfl
  have hb := dk_cell (H.at 0 rfl)
  simp (disch := omega) only [go_sem, undef, hb, dkC]
  refine wrQ0 H.dk fun M f H => ?_
  have H := Hq.kd (l := dkC fv { D with off := false, armed := false }) (D := { D with off := false }) { D with off := false, armed := false } H rfl rfl
  have hb := dk_cell (H.at 0 rfl)
  simp (disch := omega) only [go_sem, undef, hb, dkC]
  refine wrQ0 H.dk fun M f H => ?_
  have H := Hq.kd (l := dkC fv ⟨D.quota, D.fl, false, false, 0⟩) (D := { D with off := false, armed := false }) ⟨D.quota, D.fl, false, false, 0⟩ H rfl rfl
  have hb := dk_cell (H.at 0 rfl)
  have hr := dk_rds (H.at 0 rfl)
  obtain ⟨a2, c2, rfl⟩ := hr.form
  simp (disch := omega) only [go_sem, undef, hb, dkC]
  refine loopQ_intro (fun k E m' => ∃ j X rs', j ≤ rs.length ∧ k = rs.length - j ∧ X.length = rs.length ∧ rs'.length = rs.length ∧ (∀ i, i < j → X[i]? = (crL ps D.fl)[i]?) ∧ (∀ i, j ≤ i → X[i]? = D.fl[i]?) ∧ E = [(0, lpD rb), (1, .slice a ps.length c), (20, .int .i64 (rs.length : Nat)), (21, .int .i64 (j : Nat))] ∧
      Hq m m' (dkA rb (.slice a2 rs.length c2) rs D).wp [dkA rb (.slice a2 rs.length c2) rs' ⟨D.quota, X, false, false, 0⟩]) rs.length rfl ⟨0, D.fl, rs, by omega, by omega, hlen.symm, rfl, by intro i hi; omega, fun i _ => rfl, rfl, H⟩ ?_
  clear H f hb hr
  rintro k E M1 ⟨j, X, rs', hj, rfl, hXl, hrl, hX1, hX2, rfl, H⟩
  simp (disch := omega) only [go_sem, undef]
  refine condB_dec (fun hlt => ?_) (fun hlt => ?_)
  · have hlt : j < rs.length := by omega
    have hp := H.at 0 rfl
    have hb := dk_cell hp
    have hjf : X[j]? = some D.fl[j] := by rw [hX2 j (Nat.le_refl _)]; exact List.getElem?_eq_getElem (by omega)
    obtain ⟨y, hy⟩ : ∃ y, y = D.fl[j] := ⟨_, rfl⟩
    rw [← hy] at hjf
    have hym : y ∈ D.fl := by rw [hy]; exact List.getElem_mem _
    have hyk := hk y hym
    have hyl : y.b.length ≤ 500000000 := by
      have h1 := tot_take D.fl j y (by rw [hy]; exact List.getElem?_eq_getElem (by omega))
      have h2 := tot_le D.fl (j + 1)
      omega
    refine F2_at (i := j) (dk_row hp) (by omega) fun r y' hr1 hy' hR => ?_
    rw [show (⟨D.quota, X, false, false, 0⟩ : Dk).fl = X from rfl, hjf] at hy'
    cases hy'
    refine Own.rowK ((H.open3).at 1 rfl) (by omega) fun b cap tail efv hbb hll => ?_
    have ea : a2 = some ⟨b, 0, none⟩ := by injection efv
    have ec : c2 = cap := by injection efv
    subst ea ec
    have hE := RdS.elO (dk_rds hp) hrl hr1 (by decide)
    have hc1 := hE.cell 1 _ rfl
    have hc2 := hE.cell 2 _ rfl
    have hkk : r.2.2 = y.kept := hR.2.1
    rw [hkk] at hc2
    refine Exists.elim hR.2.2.1.form fun a3 hh => Exists.elim hh fun c3 ev => ?_
    rw [ev] at hc1
    have hRb := hR.2.2.1
    rw [ev] at hRb
    have hcn := crN_le (pkN ps j) y hyk
    obtain ⟨N, hN⟩ : ∃ N, N = crN (pkN ps j) y := ⟨_, rfl⟩
    have hct : crT (pkN ps j) y = ⟨y.name, y.b.take N, N⟩ := by rw [hN]; rfl
    rw [← hN] at hcn
    refine Exists.elim (RdS.cut (by decide) hRb 0 N (by omega) hcn) fun a' hh => Exists.elim hh fun c' hcr => ?_
    have hcc := hcr.1
    have hcb := hcr.2.1
    clear hh hcr
    rw [List.drop_zero, Nat.sub_zero] at hcb
    rw [Nat.sub_zero] at hcc
    have hcc : cutS 1 a3 c3 0 (N : Nat) = some (.slice a' N c') := hcc
    have hnl : (y.b.take N).length = N := by rw [List.length_take]; omega
    have hcl : RdB M1 (.slice a' N c') (y.b.take N) := hcb
    have hrem : ∀ p : Nat, ((p : Nat) : Int).tmod ((y.b.length : Nat) - ((y.kept : Nat) : Int) + 1) = ((p % (y.b.length - y.kept + 1) : Nat) : Int) := fun p => by
      rw [show ((y.b.length : Nat) : Int) - ((y.kept : Nat) : Int) + 1 = ((y.b.length - y.kept + 1 : Nat) : Int) from by omega]
      rfl
    have hjr : j < rs'.length := by omega
    simp (disch := omega) only [go_sem, undef, hb, dkC, rd_ixs, hrl]
    by_cases hpj : j < ps.length
    · have hpn := hpn (by intro e; rw [e] at hpj; simp at hpj)
      refine RdS.elK (hpv.st fun b hb => H.fr b (hpn b hb).2 (hpn b hb).1) hpj (by decide) fun bx o x hx hix hEx => ?_
      have hx0 : (ic x)[0]? = some (.int .i64 x) := rfl
      have hsum : ((y.kept : Nat) : Int) + ((pkN ps j % (y.b.length - y.kept + 1) : Nat) : Int) = ((N : Nat) : Int) := by rw [hN]; unfold crN; omega
      have hmx : max x 0 = ((pkN ps j : Nat) : Int) := by unfold pkN; rw [hx]; simp
      simp (disch := omega) only [go_sem, undef, dec_t (show ((j : Nat) : Int) < (ps.length : Nat) by omega), hix, hEx.ld0, hx0, hmx, hc1, hc2, rd_rem, hrem, hsum, rd_slc01, hcc]
      refine callN H (clone_s hcl (by omega)) fun u M A' eA f3 H => ?_
      subst eA
      refine Own.formK (H.at 0 rfl) fun a4 c4 e4 => ?_
      subst e4
      rw [hnl] at *
      simp (disch := omega) only [go_sem, undef, rd_ixs]
      have H := Hq.open3 (H.perm (List.Perm.swap ..))
      refine putFile (r' := (r.1, .slice a4 N c4, r.2.2)) (by rw [← hrl] at H; exact H.rot3) hr1 (by decide) rfl fun M f H => ?_
      have hset : (rs'.set j (r.1, .slice a4 N c4, r.2.2))[j]? = some (r.1, .slice a4 N c4, r.2.2) := by rw [List.getElem?_set_self (by omega)]
      have hE := RdS.elO (Own.rds (k := 3) (enc := rowE) (by decide) rowE_len (H.at 0 rfl)) (by rw [List.length_set]) hset (by decide)
      have hc := hE.cell 1 _ rfl
      simp (disch := omega) only [go_sem, undef, hc]
      refine putFile (r' := (r.1, .slice a4 N c4, N)) H hset (by decide) rfl fun M f H => ?_
      rw [List.set_set] at H
      have H := bs_put (i := j) (r := r) (r' := (r.1, .slice a4 N c4, N)) (f' := ⟨y.name, y.b.take N, N⟩) H.rev4 rfl rfl hR.1 rfl
      have H := Hq.close3 (D := ⟨D.quota, X.set j ⟨y.name, y.b.take N, N⟩, false, false, 0⟩) H.rot3'.rot3'
      rw [hrl] at H
      simp (disch := omega) only [go_sem, undef]
      refine handN_intro (rs.length - (j + 1)) (by omega) ⟨j + 1, X.set j ⟨y.name, y.b.take N, N⟩, rs'.set j (r.1, .slice a4 N c4, N), by omega, rfl, by rw [List.length_set, hXl], by rw [List.length_set, hrl], fun i hi => ?_, fun i hi => ?_, rfl, H⟩
      · by_cases hij : i = j
        · subst hij
          rw [List.getElem?_set_self (by omega)]
          unfold crL
          rw [List.getElem?_mapIdx, List.getElem?_eq_getElem (by omega), ← hy, Option.map_some, hct]
        · rw [List.getElem?_set_ne (by omega)]; exact hX1 i (by omega)
      · rw [List.getElem?_set_ne (by omega)]; exact hX2 i (by omega)
    · have hp0 : pkN ps j = 0 := by unfold pkN; rw [List.getElem?_eq_none (by omega)]; rfl
      have hN0 : y.kept = N := by rw [hN, hp0]; simp [crN]
      have hcc2 : cutS 1 a3 c3 0 (y.kept : Nat) = some (.slice a' N c') := by rw [hN0]; exact hcc
      simp (disch := omega) only [go_sem, undef, dec_f (show ¬ ((j : Nat) : Int) < (ps.length : Nat) by omega), hc1, hc2, rd_rem, Int.zero_tmod, Int.add_zero, rd_slc01, hcc2]
      refine callN H (clone_s hcl (by omega)) fun u M A' eA f3 H => ?_
      subst eA
      refine Own.formK (H.at 0 rfl) fun a4 c4 e4 => ?_
      subst e4
      rw [hnl] at *
      simp (disch := omega) only [go_sem, undef, rd_ixs]
      have H := Hq.open3 (H.perm (List.Perm.swap ..))
      refine putFile (r' := (r.1, .slice a4 N c4, r.2.2)) (by rw [← hrl] at H; exact H.rot3) hr1 (by decide) rfl fun M f H => ?_
      have hset : (rs'.set j (r.1, .slice a4 N c4, r.2.2))[j]? = some (r.1, .slice a4 N c4, r.2.2) := by rw [List.getElem?_set_self (by omega)]
      have hE := RdS.elO (Own.rds (k := 3) (enc := rowE) (by decide) rowE_len (H.at 0 rfl)) (by rw [List.length_set]) hset (by decide)
      have hc := hE.cell 1 _ rfl
      simp (disch := omega) only [go_sem, undef, hc]
      refine putFile (r' := (r.1, .slice a4 N c4, N)) H hset (by decide) rfl fun M f H => ?_
      rw [List.set_set] at H
      have H := bs_put (i := j) (r := r) (r' := (r.1, .slice a4 N c4, N)) (f' := ⟨y.name, y.b.take N, N⟩) H.rev4 rfl rfl hR.1 rfl
      have H := Hq.close3 (D := ⟨D.quota, X.set j ⟨y.name, y.b.take N, N⟩, false, false, 0⟩) H.rot3'.rot3'
      rw [hrl] at H
      simp (disch := omega) only [go_sem, undef]
      refine handN_intro (rs.length - (j + 1)) (by omega) ⟨j + 1, X.set j ⟨y.name, y.b.take N, N⟩, rs'.set j (r.1, .slice a4 N c4, N), by omega, rfl, by rw [List.length_set, hXl], by rw [List.length_set, hrl], fun i hi => ?_, fun i hi => ?_, rfl, H⟩
      · by_cases hij : i = j
        · subst hij
          rw [List.getElem?_set_self (by omega)]
          unfold crL
          rw [List.getElem?_mapIdx, List.getElem?_eq_getElem (by omega), ← hy, Option.map_some, hct]
        · rw [List.getElem?_set_ne (by omega)]; exact hX1 i (by omega)
      · rw [List.getElem?_set_ne (by omega)]; exact hX2 i (by omega)
  · have e : j = rs.length := by omega
    subst e
    have hX : X = crL ps D.fl := List.ext_getElem? fun i => by
      by_cases hi : i < rs.length
      · exact hX1 i hi
      · rw [List.getElem?_eq_none (by omega), List.getElem?_eq_none (by unfold crL; simp; omega)]
    subst hX
    simp (disch := omega) only [go_sem, undef]
    exact cm_done H
end Go.Fw
