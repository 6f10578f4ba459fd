import Derived.Test.YtbbiiodadoeflaaGreatDoorWf
import Derived.Test.YtbbiiodadoeflaaGreatDoorCd
set_option linter.unusedVariables false
set_option linter.unusedSimpArgs false
set_option linter.unusedSimpArgs false
set_option linter.unusedVariables false
namespace Go.Fw
open Go.Proofs
variable {m m0 M : Mem} {S : List Nat} {L : List As}
variable {rb wb : Nat} {fv : Value} {rs : List Row} {D : Dk}
/-! the power comes again -/
def ic (n : Int) : List Value := [.int .i64 n]
theorem ic_len (n : Int) : (ic n).length = 1 := rfl
def pkN (ps : List Int) (i : Nat) : Nat := ((ps[i]?).getD 0).toNat
def crN (p : Nat) (f : Fl) : Nat := f.kept + p % (f.b.length - f.kept + 1)
def crT (p : Nat) (f : Fl) : Fl := ⟨f.name, f.b.take (crN p f), crN p f⟩
def crL (ps : List Int) (l : List Fl) : List Fl := l.mapIdx fun i f => crT (pkN ps i) f
def crF (ps : List Int) (D : Dk) : Dk := ⟨D.quota, crL ps D.fl, false, false, 0⟩
theorem crN_le (p : Nat) (f : Fl) (h : f.kept ≤ f.b.length) : crN p f ≤ f.b.length := by
  have := Nat.mod_lt p (show 0 < f.b.length - f.kept + 1 by omega)
  unfold crN; omega
set_option maxHeartbeats 8000000 in
theorem crash_s (h : (dkA rb fv rs D).p m) (ps : List Int) {pv : Value} (hpv : RdS 1 ic m pv ps) (hpr : ∀ x ∈ ps, R64i x) (hpn : ps ≠ [] → ∀ b ∈ blkOf pv, b ∉ (dkA rb fv rs D).wp ∧ m b ≠ none) (hpl : ps.length ≤ 1000000) (hn : D.fl.length ≤ 1000000) (hT : tot D.fl ≤ 500000000) (hk : ∀ f ∈ D.fl, f.kept ≤ f.b.length) :
    CM Tryz.prog n_disk_Disk_Crash [lpD rb, pv] m (dkA rb fv rs D) (DkR rb (crF ps D) (.tuple #[])) := by
  have H := Hq.one h
  obtain ⟨a, c, rfl⟩ := hpv.form
  have hb := dk_cell h
  have hlen := dk_len h
  refine disk_Disk_Crash_go (by simp [Tryz.f33]) ?_
  simp (disch := omega) only [go_sem, undef, hb, dkC]
  refine wrQ0 H.dk fun M f H => ?_
  have H := Hq.kd (l := dkC fv { D with off := false }) (D := D) { D with off := false } H rfl rfl
  have hb := dk_cell (H.at 0 rfl)
  simp (disch := omega) only [go_sem, undef, hb, dkC]
  refine wrQ0 H.dk fun M f H => ?_
  have H := Hq.kd (l := dkC fv { D with off := false, armed := false }) (D := { D with off := false }) { D with off := false, armed := false } H rfl rfl
  have hb := dk_cell (H.at 0 rfl)
  simp (disch := omega) only [go_sem, undef, hb, dkC]
  refine wrQ0 H.dk fun M f H => ?_
  have H := Hq.kd (l := dkC fv ⟨D.quota, D.fl, false, false, 0⟩) (D := { D with off := false, armed := false }) ⟨D.quota, D.fl, false, false, 0⟩ H rfl rfl
  have hb := dk_cell (H.at 0 rfl)
  have hr := dk_rds (H.at 0 rfl)
  obtain ⟨a2, c2, rfl⟩ := hr.form
  simp (disch := omega) only [go_sem, undef, hb, dkC]
  refine loopQ_intro (fun k E m' => ∃ j X rs', j ≤ rs.length ∧ k = rs.length - j ∧ X.length = rs.length ∧ rs'.length = rs.length ∧ (∀ i, i < j → X[i]? = (crL ps D.fl)[i]?) ∧ (∀ i, j ≤ i → X[i]? = D.fl[i]?) ∧ E = [(0, lpD rb), (1, .slice a ps.length c), (20, .int .i64 (rs.length : Nat)), (21, .int .i64 (j : Nat))] ∧
      Hq m m' (dkA rb (.slice a2 rs.length c2) rs D).wp [dkA rb (.slice a2 rs.length c2) rs' ⟨D.quota, X, false, false, 0⟩]) rs.length rfl ⟨0, D.fl, rs, by omega, by omega, hlen.symm, rfl, by intro i hi; omega, fun i _ => rfl, rfl, H⟩ ?_
  clear H f hb hr
  rintro k E M1 ⟨j, X, rs', hj, rfl, hXl, hrl, hX1, hX2, rfl, H⟩
  simp (disch := omega) only [go_sem, undef]
  refine condB_dec (fun hlt => ?_) (fun hlt => ?_)
  · have hlt : j < rs.length := by omega
    have hp := H.at 0 rfl
    have hb := dk_cell hp
    have hjf : X[j]? = some D.fl[j] := by rw [hX2 j (Nat.le_refl _)]; exact List.getElem?_eq_getElem (by omega)
    obtain ⟨y, hy⟩ : ∃ y, y = D.fl[j] := ⟨_, rfl⟩
    rw [← hy] at hjf
    have hym : y ∈ D.fl := by rw [hy]; exact List.getElem_mem _
    have hyk := hk y hym
    have hyl : y.b.length ≤ 500000000 := by
      have h1 := tot_take D.fl j y (by rw [hy]; exact List.getElem?_eq_getElem (by omega))
      have h2 := tot_le D.fl (j + 1)
      omega
    refine F2_at (i := j) (dk_row hp) (by omega) fun r y' hr1 hy' hR => ?_
    rw [show (⟨D.quota, X, false, false, 0⟩ : Dk).fl = X from rfl, hjf] at hy'
    cases hy'
    refine Own.rowK ((H.open3).at 1 rfl) (by omega) fun b cap tail efv hbb hll => ?_
    have ea : a2 = some ⟨b, 0, none⟩ := by injection efv
    have ec : c2 = cap := by injection efv
    subst ea ec
    have hE := RdS.elO (dk_rds hp) hrl hr1 (by decide)
    have hc1 := hE.cell 1 _ rfl
    have hc2 := hE.cell 2 _ rfl
    have hkk : r.2.2 = y.kept := hR.2.1
    rw [hkk] at hc2
    refine Exists.elim hR.2.2.1.form fun a3 hh => Exists.elim hh fun c3 ev => ?_
    rw [ev] at hc1
    have hRb := hR.2.2.1
    rw [ev] at hRb
    have hcn := crN_le (pkN ps j) y hyk
    obtain ⟨N, hN⟩ : ∃ N, N = crN (pkN ps j) y := ⟨_, rfl⟩
    have hct : crT (pkN ps j) y = ⟨y.name, y.b.take N, N⟩ := by rw [hN]; rfl
    rw [← hN] at hcn
    refine Exists.elim (RdS.cut (by decide) hRb 0 N (by omega) hcn) fun a' hh => Exists.elim hh fun c' hcr => ?_
    have hcc := hcr.1
    have hcb := hcr.2.1
    clear hh hcr
    rw [List.drop_zero, Nat.sub_zero] at hcb
    rw [Nat.sub_zero] at hcc
    have hcc : cutS 1 a3 c3 0 (N : Nat) = some (.slice a' N c') := hcc
    have hnl : (y.b.take N).length = N := by rw [List.length_take]; omega
    have hcl : RdB M1 (.slice a' N c') (y.b.take N) := hcb
    have hrem : ∀ p : Nat, ((p : Nat) : Int).tmod ((y.b.length : Nat) - ((y.kept : Nat) : Int) + 1) = ((p % (y.b.length - y.kept + 1) : Nat) : Int) := fun p => by
      rw [show ((y.b.length : Nat) : Int) - ((y.kept : Nat) : Int) + 1 = ((y.b.length - y.kept + 1 : Nat) : Int) from by omega]
      rfl
    have hjr : j < rs'.length := by omega
    simp (disch := omega) only [go_sem, undef, hb, dkC, rd_ixs, hrl]
    by_cases hpj : j < ps.length
    · have hpn := hpn (by intro e; rw [e] at hpj; simp at hpj)
      refine RdS.elK (hpv.st fun b hb => H.fr b (hpn b hb).2 (hpn b hb).1) hpj (by decide) fun bx o x hx hix hEx => ?_
      have hx0 : (ic x)[0]? = some (.int .i64 x) := rfl
      have hsum : ((y.kept : Nat) : Int) + ((pkN ps j % (y.b.length - y.kept + 1) : Nat) : Int) = ((N : Nat) : Int) := by rw [hN]; unfold crN; omega
      have hmx : max x 0 = ((pkN ps j : Nat) : Int) := by unfold pkN; rw [hx]; simp
      simp (disch := omega) only [go_sem, undef, dec_t (show ((j : Nat) : Int) < (ps.length : Nat) by omega), hix, hEx.ld0, hx0, hmx, hc1, hc2, rd_rem, hrem, hsum, rd_slc01, hcc]
      refine callN H (clone_s hcl (by omega)) fun u M A' eA f3 H => ?_
      subst eA
      refine Own.formK (H.at 0 rfl) fun a4 c4 e4 => ?_
      subst e4
      rw [hnl] at *
      simp (disch := omega) only [go_sem, undef, rd_ixs]
      have H := Hq.open3 (H.perm (List.Perm.swap ..))
      refine putFile (r' := (r.1, .slice a4 N c4, r.2.2)) (by rw [← hrl] at H; exact H.rot3) hr1 (by decide) rfl fun M f H => ?_
      have hset : (rs'.set j (r.1, .slice a4 N c4, r.2.2))[j]? = some (r.1, .slice a4 N c4, r.2.2) := by rw [List.getElem?_set_self (by omega)]
      have hE := RdS.elO (Own.rds (k := 3) (enc := rowE) (by decide) rowE_len (H.at 0 rfl)) (by rw [List.length_set]) hset (by decide)
      have hc := hE.cell 1 _ rfl
      simp (disch := omega) only [go_sem, undef, hc]
      refine putFile (r' := (r.1, .slice a4 N c4, N)) H hset (by decide) rfl fun M f H => ?_
      rw [List.set_set] at H
      have H := bs_put (i := j) (r := r) (r' := (r.1, .slice a4 N c4, N)) (f' := ⟨y.name, y.b.take N, N⟩) H.rev4 rfl rfl hR.1 rfl
      have H := Hq.close3 (D := ⟨D.quota, X.set j ⟨y.name, y.b.take N, N⟩, false, false, 0⟩) H.rot3'.rot3'
      rw [hrl] at H
      simp (disch := omega) only [go_sem, undef]
      refine handN_intro (rs.length - (j + 1)) (by omega) ⟨j + 1, X.set j ⟨y.name, y.b.take N, N⟩, rs'.set j (r.1, .slice a4 N c4, N), by omega, rfl, by rw [List.length_set, hXl], by rw [List.length_set, hrl], fun i hi => ?_, fun i hi => ?_, rfl, H⟩
      · by_cases hij : i = j
        · subst hij
          rw [List.getElem?_set_self (by omega)]
          unfold crL
          rw [List.getElem?_mapIdx, List.getElem?_eq_getElem (by omega), ← hy, Option.map_some, hct]
        · rw [List.getElem?_set_ne (by omega)]; exact hX1 i (by omega)
      · rw [List.getElem?_set_ne (by omega)]; exact hX2 i (by omega)
    · have hp0 : pkN ps j = 0 := by unfold pkN; rw [List.getElem?_eq_none (by omega)]; rfl
      have hN0 : y.kept = N := by rw [hN, hp0]; simp [crN]
      have hcc2 : cutS 1 a3 c3 0 (y.kept : Nat) = some (.slice a' N c') := by rw [hN0]; exact hcc
      simp (disch := omega) only [go_sem, undef, dec_f (show ¬ ((j : Nat) : Int) < (ps.length : Nat) by omega), hc1, hc2, rd_rem, Int.zero_tmod, Int.add_zero, rd_slc01, hcc2]
      refine callN H (clone_s hcl (by omega)) fun u M A' eA f3 H => ?_
      subst eA
      refine Own.formK (H.at 0 rfl) fun a4 c4 e4 => ?_
      subst e4
      rw [hnl] at *
      simp (disch := omega) only [go_sem, undef, rd_ixs]
      have H := Hq.open3 (H.perm (List.Perm.swap ..))
      refine putFile (r' := (r.1, .slice a4 N c4, r.2.2)) (by rw [← hrl] at H; exact H.rot3) hr1 (by decide) rfl fun M f H => ?_
      have hset : (rs'.set j (r.1, .slice a4 N c4, r.2.2))[j]? = some (r.1, .slice a4 N c4, r.2.2) := by rw [List.getElem?_set_self (by omega)]
      have hE := RdS.elO (Own.rds (k := 3) (enc := rowE) (by decide) rowE_len (H.at 0 rfl)) (by rw [List.length_set]) hset (by decide)
      have hc := hE.cell 1 _ rfl
      simp (disch := omega) only [go_sem, undef, hc]
      refine putFile (r' := (r.1, .slice a4 N c4, N)) H hset (by decide) rfl fun M f H => ?_
      rw [List.set_set] at H
      have H := bs_put (i := j) (r := r) (r' := (r.1, .slice a4 N c4, N)) (f' := ⟨y.name, y.b.take N, N⟩) H.rev4 rfl rfl hR.1 rfl
      have H := Hq.close3 (D := ⟨D.quota, X.set j ⟨y.name, y.b.take N, N⟩, false, false, 0⟩) H.rot3'.rot3'
      rw [hrl] at H
      simp (disch := omega) only [go_sem, undef]
      refine handN_intro (rs.length - (j + 1)) (by omega) ⟨j + 1, X.set j ⟨y.name, y.b.take N, N⟩, rs'.set j (r.1, .slice a4 N c4, N), by omega, rfl, by rw [List.length_set, hXl], by rw [List.length_set, hrl], fun i hi => ?_, fun i hi => ?_, rfl, H⟩
      · by_cases hij : i = j
        · subst hij
          rw [List.getElem?_set_self (by omega)]
          unfold crL
          rw [List.getElem?_mapIdx, List.getElem?_eq_getElem (by omega), ← hy, Option.map_some, hct]
        · rw [List.getElem?_set_ne (by omega)]; exact hX1 i (by omega)
      · rw [List.getElem?_set_ne (by omega)]; exact hX2 i (by omega)
  · have e : j = rs.length := by omega
    subst e
    have hX : X = crL ps D.fl := List.ext_getElem? fun i => by
      by_cases hi : i < rs.length
      · exact hX1 i hi
      · rw [List.getElem?_eq_none (by omega), List.getElem?_eq_none (by unfold crL; simp; omega)]
    subst hX
    simp (disch := omega) only [go_sem, undef]
    exact cm_done H
end Go.Fw

set_option linter.unusedSimpArgs false
set_option linter.unusedVariables false
namespace Go.Fw
open Go.Proofs
variable {m m0 M : Mem} {S : List Nat} {L : List As}
abbrev dq (q : Nat) (F : List Fl) : Dk := ⟨q, F, false, false, 0⟩
theorem frs_one (x : Bs) : (frs [x]).length = x.length + 6 := by rw [frs_len]; simp
theorem digits_one : MC Tryz.prog n_ref8_digits [.int .i64 1] m fun u M => u = .string (zb [49]) ∧ Fr m M [] := by
  refine ref8_digits_go (by simp [Tryz.f33]) ?_
  have he : (⟨#[]⟩ : ByteArray) = zb [] := rfl
  simp (disch := omega) only [go_sem, undef, he]
  refine loopQ_intro (fun k E m' => ((k = 1 ∧ E = [(0, .int .i64 1), (3, .string (zb []))]) ∨ (k = 0 ∧ E = [(0, .int .i64 0), (3, .string (zb [49]))])) ∧ Fr m m' []) 1 rfl ⟨.inl ⟨rfl, rfl⟩, Fr.refl _ _⟩ ?_
  rintro k E M1 ⟨hE, f⟩
  have H : Hq m M1 [] [] := (Hq.refl m []).keep f
  rcases hE with ⟨rfl, rfl⟩ | ⟨rfl, rfl⟩
  · simp (disch := omega) only [go_sem, undef, dec_t (show (0 : Int) < 1 by decide), rd_rem, (show Int.tmod 1 10 = 1 from rfl), (show IntKind.u8.wrap (48 + 1) = 49 from rfl)]
    refine newQ H fun b M f H => ?_
    have hb := rd_b2s (a := some ⟨b, 0, none⟩) (c := 1) (l := [49]) (byte_rd (x := 49) H.cs.1)
    have hb : rd .b2s [Value.slice (some ⟨b, 0, none⟩) 1 1] M = some (.string (zb [49])) := hb
    simp (disch := omega) only [go_sem, undef, hb, rd_zadd [49] [] (by simp), rd_quo, (show Int.tdiv 1 10 = 0 from rfl)]
    exact handN_intro 0 (by omega) ⟨.inr ⟨rfl, rfl⟩, H.fr⟩
  · have hne : ¬ zb [49] = zb [] := fun e => by have := zb_inj.1 e; cases this
    simp (disch := omega) only [go_sem, undef, he, dec_f (show ¬ (0 : Int) < 0 by decide), decide_eq_false hne]
    exact ⟨rfl, f⟩
theorem segment_one : MC Tryz.prog n_ref8_Segment [.int .i64 1, .int .i64 1] m fun u M => u = .string (zb (nmB 1 1)) ∧ Fr m M [] := by
  refine ref8_Segment_go (by simp [Tryz.f33]) ?_
  have H := Hq.refl m []
  simp (disch := omega) only [go_sem, undef]
  refine callQ H digits_one fun M f H => ?_
  simp (disch := omega) only [go_sem, undef, log_eq, dot_eq, rd_zadd [108, 111, 103, 46] [49] (by simp), rd_zadd [108, 111, 103, 46, 49] [46] (by simp)]
  refine callQ H digits_one fun M f H => ?_
  simp (disch := omega) only [go_sem, undef, rd_zadd [108, 111, 103, 46, 49, 46] [49] (by simp)]
  exact ⟨rfl, H.fr⟩
theorem mk_bytes (q i : Nat) (hq : 0 < q) (hi : i < 256) : ((List.replicate q [Value.int .u8 0]).flatten).set 0 (.int .u8 (i : Nat)) = bys (UInt8.ofNat i :: List.replicate (q - 1) 0) := by
  obtain ⟨q, rfl⟩ : ∃ r, q = r + 1 := ⟨q - 1, by omega⟩
  have h1 : ∀ n : Nat, (List.replicate n [Value.int .u8 0]).flatten = bys (List.replicate n (0 : UInt8)) := by
    intro n
    induction n with
    | zero => rfl
    | succ n ih => rw [List.replicate_succ, List.flatten_cons, ih, List.replicate_succ]; rfl
  rw [List.replicate_succ, List.flatten_cons, h1]
  show Value.int .u8 (i : Nat) :: bys (List.replicate q 0) = Value.int .u8 ((UInt8.ofNat i).toNat : Nat) :: bys (List.replicate q 0)
  rw [UInt8.toNat_ofNat', Nat.mod_eq_of_lt (by omega)]
theorem Gen.len2 {fl : List Fl} {g : Nat} {segs : List Bs} (G : Gen fl g segs) (hg : g < 100) (hK : segs.length < 99) : fl.length = segs.length := by
  refine Nat.le_antisymm G.len ?_
  have hn : ((List.range segs.length).map fun k => nmB g (k + 1)).Nodup := by
    refine List.pairwise_map.2 (List.Pairwise.imp_of_mem (fun {a b} ha hb hab hh => ?_) (List.nodup_range (n := segs.length)))
    have ha := List.mem_range.1 ha
    have hb := List.mem_range.1 hb
    have := (nmB_inj hg (by omega) hg (by omega) hh).2
    exact hab (by omega)
  have := len_sub _ (fl.map Fl.name) hn fun x hx => by
    obtain ⟨k, hk, rfl⟩ := List.mem_map.1 hx
    have h1 := G.seg k (List.mem_range.1 hk)
    obtain ⟨h2, h3⟩ := look_name h1
    exact List.mem_map.2 ⟨_, h2, h3⟩
  simpa using this
end Go.Fw

set_option linter.unusedSimpArgs false
set_option linter.unusedVariables false
namespace Go.Fw
open Go.Proofs
variable {m m0 M : Mem} {S : List Nat} {L : List As}
def lastN (segs : List Bs) : Nat := (segs.getLast?.getD []).length
theorem lastN_get {segs : List Bs} (h : segs ≠ []) : (segs.getLast h).length = lastN segs := by
  unfold lastN; rw [List.getLast?_eq_some_getLast h]; rfl
theorem lastN_snoc (l : List Bs) (x : Bs) : lastN (l ++ [x]) = x.length := by unfold lastN; simp
set_option maxHeartbeats 32000000 in
theorem walSegments_s {v : Value} {ps : List Int} (hv : RdS 1 ic m v ps) (hr : ∀ x ∈ ps, R64i x) (hn : ps.length ≤ 9223372036854775807) :
    MC Tryz.prog n_law10_WalSegments [v] m fun u M => u = .bool true ∧ Fr m M [] := by
  have hn1 : ∀ b : Nat, (some (⟨b, 0, none⟩ : Addr)).isNone = false := fun _ => rfl
  have nc1 : ((1 : Nat) : Int) = 1 := rfl
  obtain ⟨av, cv, rfl⟩ := hv.form
  obtain ⟨Q, hQ⟩ : ∃ Q, Q = 1048576 := ⟨_, rfl⟩
  have hcQ : (1048576 : Int) = ((Q : Nat) : Int) := by rw [hQ]; rfl
  refine law10_WalSegments_go (by simp [Tryz.f33]) ?_
  have H := Hq.refl m []
  simp (disch := omega) only [go_sem, undef, hcQ]
  refine callN H (disk_New_s Q (by omega)) fun u M A' hR f H => ?_
  obtain ⟨rb, rfl, rfl⟩ := hR
  simp (disch := omega) only [go_sem, undef]
  refine callA0 H (open_0 (H.at 0 rfl) rfl (by simp)) fun u M A' hR f H => ?_
  obtain ⟨wb, w0, vs0, fv, rs, rfl, rfl⟩ := hR
  have H := H.split.tail
  have hok0 : Okd (dq Q []) := ⟨rfl, rfl, gen_nil.srt⟩
  have hl0 := hdR_len []
  have hl0 : (hdR []).length ≤ 16 := hl0
  simp (disch := omega) only [go_sem, undef, hn1]
  refine callA0 H (anew_g (g := 0) (segs := []) (l := []) (H.at 0 rfl) hok0 gen_nil (by decide) (by decide) (RdS.nil v1_len M) .nil (by decide) (by decide) (by decide) (by simp [tot]) (by simp) (by simp only; omega) (by simp [tot]; omega)) fun u M A' hR f H => ?_
  obtain ⟨fv, rs, F, rfl, rfl, G, R, ht⟩ := hR
  have ht : tot F ≤ 16 := by simp [tot] at ht; simp [tot]; omega
  simp (disch := omega) only [go_sem, undef]
  have hGl := G.len
  have hGl : F.length ≤ 1 := hGl
  refine callQ H segment_one fun M f H => ?_
  simp (disch := omega) only [go_sem, undef]
  have H := H.split
  refine callN H (read_s (H.at 1 rfl) (nmB 1 1) (by simp only; omega) (by simp only; omega)) fun u M A' hR f H => ?_
  obtain ⟨w2, rfl, rfl⟩ := hR
  have hlk : lookF (nmB 1 1) F = some ⟨nmB 1 1, hdR [], (hdR []).length⟩ := G.seg 0 (by simp)
  have hrd : rdB (lookF (nmB 1 1) (dq Q F).fl) = hdR [] := by
    show rdB (lookF (nmB 1 1) F) = _
    rw [hlk]; rfl
  refine Own.formK (H.at 0 rfl) fun a4 c4 e4 => ?_
  subst e4
  have hrl : (rdB (lookF (nmB 1 1) (dq Q F).fl)).length = lastN [hdR []] := by rw [hrd]; rfl
  simp (disch := omega) only [go_sem, undef, hrl]
  have H := (Hq.join (A := wcA wb rb ⟨1, 1, false⟩) H.tail).nilBr T_S_uint8
  refine loopQ_intro (fun k E m' => ∃ i w vs recs segs F fv rs n, i ≤ ps.length ∧ i ≤ 30 ∧ k = ps.length - i ∧ tot F ≤ 16 + 3006 * i ∧ 0 < segs.length ∧ segs.length ≤ 1 + i ∧ Gen F 1 segs ∧ SegR segs n recs ∧ vs.length ≤ i ∧ E = [(0, .slice av ps.length cv), (3, lpD rb), (5, lpD wb), (8, w), (9, .int .i64 (segs.length : Nat)), (12, .int .i64 (lastN segs : Nat)), (13, .int .i64 (i : Nat))] ∧
      Hq m m' [] [brA T_S_uint8 w vs recs, wlA wb rb fv rs ⟨1, segs.length, false⟩ (dq Q F)]) ps.length rfl ⟨0, .slice none 0 0, [], [], [hdR []], F, fv, rs, _, by omega, by omega, by omega, by omega, by simp, by simp, G, R, by simp, rfl, H⟩ ?_
  clear H f G R ht hlk hrd hrl hGl
  rintro k E M1 ⟨i, w, vs, recs, segs, F, fv, rs, n, hi1, hi2, rfl, ht, hK0, hK, G, R, hus, rfl, H⟩
  have hD : Okd (dq Q F) := ⟨rfl, rfl, G.srt⟩
  have hgo : i < ps.length ∧ i < 30 ∨ ¬ (i < ps.length ∧ i < 30) := Classical.em _
  rcases hgo with ⟨h1, h2⟩ | hend
  · simp (disch := omega) only [go_sem, undef, dec_t (show ((i : Nat) : Int) < (ps.length : Nat) by omega), dec_t (show ((i : Nat) : Int) < 30 by omega)]
    refine RdS.elK (hv.frame H.fr) h1 (by decide) fun bx o x hx hix hE => ?_
    have hx0 : (ic x)[0]? = some (.int .i64 x) := rfl
    simp (disch := omega) only [go_sem, undef, hix, hE.ld0, hx0]
    refine callR H (within_s x 1 3000 (by decide) (hr x (List.mem_of_getElem? hx)) (by decide) (by decide)) fun u M hR f H => ?_
    refine Exists.elim hR fun r hh => ?_
    obtain ⟨eu, hr1, hr2⟩ := hh
    subst eu
    refine Exists.elim (⟨r.toNat, by omega⟩ : ∃ q : Nat, r = (q : Nat)) fun q eq => ?_
    subst eq
    simp (disch := omega) only [go_sem, undef]
    refine newQ H fun b M f H => ?_
    have hq1 : 1 ≤ q := by omega
    have hq2 : q ≤ 3000 := by omega
    have hsz : ((List.replicate q [Value.int .u8 0]).flatten).toArray.size = q := by simp
    have hw8 : IntKind.u8.wrap ((i : Nat) : Int) = ((i : Nat) : Int) := by rw [IntKind.wrap_u8]; omega
    have hcb := H.cs.1
    simp (disch := omega) only [go_sem, undef, hw8, hcb, hsz]
    refine wrQ0 H fun M f H => ?_
    rw [mk_bytes q i (by omega) (by omega)] at H
    refine Exists.elim (⟨_, rfl⟩ : ∃ p, p = UInt8.ofNat i :: List.replicate (q - 1) 0) fun p hp => ?_
    rw [← hp] at H
    have hpl : p.length = q := by rw [hp]; simp; omega
    have H : Hq m M [] [byA T_uint8 (.slice (some ⟨b, 0, none⟩) q q) p, brA T_S_uint8 w vs recs, wlA wb rb fv rs ⟨1, segs.length, false⟩ (dq Q F)] := by
      have h := H.toRow (l := bys p) 1 q q (by rw [bys_len, hpl]; omega) (Nat.le_refl _)
      rw [List.take_of_length_le (by rw [bys_len, hpl]; omega)] at h
      rw [byA, hpl]
      exact h
    simp (disch := omega) only [go_sem, undef]
    refine newQ H fun b2 M f2 H => ?_
    simp (disch := omega) only [go_sem, undef]
    have hpb : RdB M (.slice (some ⟨b, 0, none⟩) q q) p := byA_rd (H.at 1 rfl)
    have hokp : ∀ x ∈ [p], okR x := fun x hx => by
      have : x = p := by simpa using hx
      subst this
      exact ⟨by omega, by omega⟩
    have hfp : (frs [p]).length = q + 6 := by rw [frs_one, hpl]
    have hff : ([p] : List Bs).flatten.length = q := by simp [hpl]
    refine callA3 H (add_g (g := 1) (l := [p]) (H.at 3 rfl) hD G R (by decide) (by decide) (by omega) hK0 (by simp) (row_rds H.cs.1 rfl) (.cons hpb .nil) hokp (by omega) (by simp) (by simp only; omega) (by simp) (by simp only; omega) (by simp only; omega)) fun u M A' hR f H => ?_
    refine Exists.elim hR fun fv2 hh => Exists.elim hh fun rs2 hh => Exists.elim hh fun F2 hh => Exists.elim hh fun segs2 hh => ?_
    obtain ⟨eu, eA, G2, R2, ht2, es⟩ := hh
    subst eu eA
    clear hh hR
    rw [lastN_get] at es
    have ht2 : tot F2 = tot F + (q + 6) := by rw [ht2, hfp]
    have H : Hq m M [] [byA T_uint8 (.slice (some ⟨b, 0, none⟩) q q) p, brA T_S_uint8 w vs recs, wlA wb rb fv2 rs2 ⟨1, segs2.length, false⟩ (dq Q F2)] := H.tail
    simp (disch := omega) only [go_sem, undef]
    refine newQ H fun b3 M f3 H => ?_
    simp (disch := omega) only [go_sem, undef]
    refine app_br H rfl rfl (by omega) fun w' M H => ?_
    by_cases hlong : 4096 < lastN segs
    · rw [if_pos hlong] at es
      have hsl : segs2.length = segs.length + 1 := by rw [es]; simp
      have hls : lastN segs2 = q + 6 := by rw [es, lastN_snoc, hfp]
      have hnn : (0 : Int) + ((q : Nat) : Int) + 6 = ((lastN segs2 : Nat) : Int) := by omega
      have hns : ((segs.length : Nat) : Int) + 1 = ((segs2.length : Nat) : Int) := by omega
      simp (disch := omega) only [go_sem, undef, dec_t (show ((lastN segs : Nat) : Int) > 4096 by omega), hnn, hns]
      have H := (H.perm (List.Perm.swap ..)).split
      refine callQ H (where_s H.cs.1) fun M f H => ?_
      have H : Hq m M [] [brA T_S_uint8 w' (vs ++ [.slice (some ⟨b, 0, none⟩) q q]) (recs ++ [p]), wlA wb rb fv2 rs2 ⟨1, segs2.length, false⟩ (dq Q F2)] := (Hq.join (A := wcA wb rb ⟨1, segs2.length, false⟩) H).perm (List.Perm.swap ..)
      simp (disch := omega) only [go_sem, undef, nc1, dec_f (show ¬ ((segs2.length : Nat) : Int) ≠ (segs2.length : Nat) by simp)]
      exact handN_intro (ps.length - (i + 1)) (by omega) ⟨i + 1, w', vs ++ [.slice (some ⟨b, 0, none⟩) q q], recs ++ [p], segs2, F2, fv2, rs2, n, by omega, by omega, rfl, by omega, by omega, by omega, G2, R2, by rw [List.length_append]; simp; omega, by first | rfl | (rw [hls]; rfl), H⟩
    · rw [if_neg hlong] at es
      have hsl : segs2.length = segs.length := by rw [es]; simp; omega
      have hls : lastN segs2 = lastN segs + (q + 6) := by rw [es, lastN_snoc, List.length_append, hfp, lastN_get]
      have hnn : ((lastN segs : Nat) : Int) + ((q : Nat) : Int) + 6 = ((lastN segs2 : Nat) : Int) := by omega
      simp (disch := omega) only [go_sem, undef, dec_f (show ¬ ((lastN segs : Nat) : Int) > 4096 by omega), hnn]
      have H := (H.perm (List.Perm.swap ..)).split
      refine callQ H (where_s H.cs.1) fun M f H => ?_
      have H : Hq m M [] [brA T_S_uint8 w' (vs ++ [.slice (some ⟨b, 0, none⟩) q q]) (recs ++ [p]), wlA wb rb fv2 rs2 ⟨1, segs2.length, false⟩ (dq Q F2)] := (Hq.join (A := wcA wb rb ⟨1, segs2.length, false⟩) H).perm (List.Perm.swap ..)
      simp (disch := omega) only [go_sem, undef, nc1, dec_f (show ¬ ((segs2.length : Nat) : Int) ≠ (segs.length : Nat) by omega)]
      exact handN_intro (ps.length - (i + 1)) (by omega) ⟨i + 1, w', vs ++ [.slice (some ⟨b, 0, none⟩) q q], recs ++ [p], segs2, F2, fv2, rs2, n, by omega, by omega, rfl, by omega, by omega, by omega, G2, R2, by rw [List.length_append]; simp; omega, by rw [hsl]; rfl, H⟩
  · by_cases hil : i < ps.length
    · simp (disch := omega) only [go_sem, undef, dec_t (show ((i : Nat) : Int) < (ps.length : Nat) by omega), dec_f (show ¬ ((i : Nat) : Int) < 30 by omega)]
      have H := (H.perm (List.Perm.swap ..)).split
      refine callA1 H (open_g (H.at 1 rfl) hD G R (by decide) (by decide) (by omega) (by simp only; omega) (by simp)) fun u M A' hR f H => ?_
      refine Exists.elim hR fun wb2 hh => Exists.elim hh fun w2 hh => Exists.elim hh fun vs2 hh => Exists.elim hh fun fv2 hh => Exists.elim hh fun rs2 hh => Exists.elim hh fun F2 hh => ?_
      obtain ⟨eu, eA, G2, ht2⟩ := hh
      subst eu eA
      clear hh hR
      have H := (H.perm (List.Perm.swap ..)).split
      have H : Hq m M [] [rbA w2 vs2 recs, wlA wb2 rb fv2 rs2 ⟨1, segs.length, false⟩ (dq Q F2), brA T_S_uint8 w vs recs] := H.drop 2
      have hrb := H.at 0 rfl
      have hbr := H.at 2 rfl
      have hrok : ∀ p ∈ recs, p.length ≤ 1000000000 := by
        refine Exists.elim R fun ls2 hh => ?_
        exact fun p hp => Nat.le_trans (hh.2.2.2.1 p hp).2 (by decide)
      have hvl2 := F2_len hrb.2
      have hul2 := brA_len hbr
      have hnl : F2.length = segs.length := G2.len2 (by decide) (by omega)
      simp (disch := omega) only [go_sem, undef, dec_t (show (0 : Int) = 0 from rfl)]
      refine callQ H (lists_s hrb.1.1 (F2_imp hrb.2 fun _ _ _ h => h.1) (brA_rds hbr) (F2_imp hbr.2.1 fun _ _ _ h => h.1) hrok hrok (by omega) (by omega)) fun M f2 H => ?_
      have H := H.rot3.split
      simp (disch := omega) only [go_sem, undef, decide_eq_true (rfl : recs = recs)]
      have hnl2 := G2.len
      refine callN H (names_s (H.at 1 rfl) (by simp only; omega)) fun u M A' eA f3 H => ?_
      subst eA
      refine Own.formK (H.at 0 rfl) fun na nc eu => ?_
      subst eu
      simp (disch := omega) only [go_sem, undef, dec_t (show ((F2.length : Nat) : Int) = (segs.length : Nat) by omega)]
      refine callQ H walRuns_s fun M f3 H => ?_
      simp (disch := omega) only [go_sem, undef]
      exact ⟨rfl, H.fr⟩
    · simp (disch := omega) only [go_sem, undef, dec_f (show ¬ ((i : Nat) : Int) < (ps.length : Nat) by omega)]
      have H := (H.perm (List.Perm.swap ..)).split
      refine callA1 H (open_g (H.at 1 rfl) hD G R (by decide) (by decide) (by omega) (by simp only; omega) (by simp)) fun u M A' hR f H => ?_
      refine Exists.elim hR fun wb2 hh => Exists.elim hh fun w2 hh => Exists.elim hh fun vs2 hh => Exists.elim hh fun fv2 hh => Exists.elim hh fun rs2 hh => Exists.elim hh fun F2 hh => ?_
      obtain ⟨eu, eA, G2, ht2⟩ := hh
      subst eu eA
      clear hh hR
      have H := (H.perm (List.Perm.swap ..)).split
      have H : Hq m M [] [rbA w2 vs2 recs, wlA wb2 rb fv2 rs2 ⟨1, segs.length, false⟩ (dq Q F2), brA T_S_uint8 w vs recs] := H.drop 2
      have hrb := H.at 0 rfl
      have hbr := H.at 2 rfl
      have hrok : ∀ p ∈ recs, p.length ≤ 1000000000 := by
        refine Exists.elim R fun ls2 hh => ?_
        exact fun p hp => Nat.le_trans (hh.2.2.2.1 p hp).2 (by decide)
      have hvl2 := F2_len hrb.2
      have hul2 := brA_len hbr
      have hnl : F2.length = segs.length := G2.len2 (by decide) (by omega)
      simp (disch := omega) only [go_sem, undef, dec_t (show (0 : Int) = 0 from rfl)]
      refine callQ H (lists_s hrb.1.1 (F2_imp hrb.2 fun _ _ _ h => h.1) (brA_rds hbr) (F2_imp hbr.2.1 fun _ _ _ h => h.1) hrok hrok (by omega) (by omega)) fun M f2 H => ?_
      have H := H.rot3.split
      simp (disch := omega) only [go_sem, undef, decide_eq_true (rfl : recs = recs)]
      have hnl2 := G2.len
      refine callN H (names_s (H.at 1 rfl) (by simp only; omega)) fun u M A' eA f3 H => ?_
      subst eA
      refine Own.formK (H.at 0 rfl) fun na nc eu => ?_
      subst eu
      simp (disch := omega) only [go_sem, undef, dec_t (show ((F2.length : Nat) : Int) = (segs.length : Nat) by omega)]
      refine callQ H walRuns_s fun M f3 H => ?_
      simp (disch := omega) only [go_sem, undef]
      exact ⟨rfl, H.fr⟩
end Go.Fw
