import Derived.Test.YtbbiiodadoeflaaGreatDoorWc
set_option linter.unusedVariables false
set_option linter.unusedSimpArgs false
namespace Go.Fw
open Go.Proofs
variable {m m0 M : Mem} {S : List Nat} {L : List As}
variable {rb wb : Nat} {fv : Value} {rs : List Row} {D : Dk}
def cutT (n : Nat) (f : Fl) : Fl := { f with b := f.b.take n, kept := min f.kept n }
def lenAt (l : List Fl) (i : Nat) : Nat := ((l[i]?).map fun f => f.b.length).getD 0
def cutF (nm : Bs) (n : Nat) (D : Dk) : Dk × Nat :=
  if (knownF nm D).2 ≠ 0 then (D, (knownF nm D).2) else if lenAt D.fl (knownF nm D).1 < n then (D, 1) else if (powF D).2 ≠ 0 then powF D else ({ (powF D).1 with fl := D.fl.modify (knownF nm D).1 (cutT n) }, 0)
set_option maxHeartbeats 8000000 in
theorem cut_s2 (h : (dkA rb fv rs D).p m) (nm : Bs) (n : Nat) (hnn : n ≤ 1000000000) (hn : D.fl.length ≤ 1000000) (hl : D.left ≤ 9223372036854775807) (hT : tot D.fl ≤ 500000000) (hkp : ∀ f ∈ D.fl, f.kept ≤ 1000000000) : CM Tryz.prog n_disk_Disk_Cut [lpD rb, .string (zb nm), .int .i64 (n : Nat)] m (dkA rb fv rs D) (DkR rb (cutF nm n D).1 (.int .i64 ((cutF nm n D).2 : Nat))) := by
  have H := Hq.one h
  have hk := known_s h nm hn
  have hat := known_at nm D
  have hps := fun M (h : (dkA rb fv rs D).p M) => power_s h hl
  have hpf := powF_fl D
  unfold cutF
  generalize knownF nm D = q at *
  obtain ⟨i, e⟩ := q
  generalize powF D = pd at *
  obtain ⟨D1, e1⟩ := pd
  by_cases he : e = 0
  rotate_left
  · rw [if_pos he]
    refine disk_Disk_Cut_go (by simp [Tryz.f33]) ?_
    simp (disch := omega) only [go_sem, undef]
    refine callQ H hk fun M f H => ?_
    simp (disch := omega) only [go_sem, undef, dec_f (show ¬ ((e : Nat) : Int) = 0 by omega)]
    exact cm_done H
  subst he
  rw [if_neg (by simp)]
  obtain ⟨y, hy, hyn⟩ := hat rfl
  have hy : D.fl[i]? = some y := hy
  have hpf : D1.fl = D.fl := hpf
  have hi := (List.getElem?_eq_some_iff.1 hy).1
  have hla : lenAt D.fl i = y.b.length := by unfold lenAt; rw [hy]; rfl
  have hyl : y.b.length ≤ 500000000 := by
    have h1 := tot_take D.fl i y hy
    have h2 := tot_le D.fl (i + 1)
    omega
  have hyk := hkp y (List.mem_of_getElem? hy)
  rw [show ((i, 0) : Nat × Nat).1 = i from rfl, hla]
  have hlen := dk_len h
  have hb := dk_cell h
  have hil : i < rs.length := by omega
  refine F2_at (i := i) (dk_row h) (by omega) fun r y' hr1 hy' hR => ?_
  rw [hy] at hy'
  cases hy'
  refine Own.rowK (((Hq.one h).open3).at 1 rfl) (by omega) fun b cap tail efv hbb hll => ?_
  subst efv
  have hE := RdS.elO (dk_rds h) rfl hr1 (by decide)
  have hc := hE.cell 1 _ rfl
  refine Exists.elim hR.2.2.1.form fun a3 hh => Exists.elim hh fun c3 ev => ?_
  rw [ev] at hc
  by_cases hlong : y.b.length < n
  · rw [if_pos hlong]
    refine disk_Disk_Cut_go (by simp [Tryz.f33]) ?_
    simp (disch := omega) only [go_sem, undef]
    refine callQ H hk fun M f H => ?_
    have hb := f.get hb (by simp)
    have hc := (hE.frame f).cell 1 _ rfl
    rw [ev] at hc
    simp (disch := omega) only [go_sem, undef, hb, dkC, rd_ixs, hc, dec_t (show ((0 : Nat) : Int) = 0 from rfl), dec_f (show ¬ ((n : Nat) : Int) < 0 by omega), dec_t (show ((n : Nat) : Int) > (y.b.length : Nat) by omega)]
    exact cm_done H
  rw [if_neg hlong]
  by_cases he1 : e1 = 0
  rotate_left
  · rw [if_pos he1]
    refine disk_Disk_Cut_go (by simp [Tryz.f33]) ?_
    simp (disch := omega) only [go_sem, undef]
    refine callQ H hk fun M f H => ?_
    have hb := f.get hb (by simp)
    have hc := (hE.frame f).cell 1 _ rfl
    rw [ev] at hc
    simp (disch := omega) only [go_sem, undef, hb, dkC, rd_ixs, hc, dec_t (show ((0 : Nat) : Int) = 0 from rfl), dec_f (show ¬ ((n : Nat) : Int) < 0 by omega), dec_f (show ¬ ((n : Nat) : Int) > (y.b.length : Nat) by omega)]
    refine callS0 (dkA rb _ rs D1) H (hps _ (H.at 0 rfl)) (by simp [dkA, starA, bsA]) (by simp [dkA, starA, bsA]) fun M f H => ?_
    simp (disch := omega) only [go_sem, undef, dec_f (show ¬ ((e1 : Nat) : Int) = 0 by omega)]
    exact cm_done H
  subst he1
  rw [if_neg (by simp)]
  refine disk_Disk_Cut_go (by simp [Tryz.f33]) ?_
  simp (disch := omega) only [go_sem, undef]
  refine callQ H hk fun M f H => ?_
  have hb := f.get hb (by simp)
  have hc := (hE.frame f).cell 1 _ rfl
  rw [ev] at hc
  simp (disch := omega) only [go_sem, undef, hb, dkC, rd_ixs, hc, dec_t (show ((0 : Nat) : Int) = 0 from rfl), dec_f (show ¬ ((n : Nat) : Int) < 0 by omega), dec_f (show ¬ ((n : Nat) : Int) > (y.b.length : Nat) by omega)]
  refine callS0 (dkA rb _ rs D1) H (hps _ (H.at 0 rfl)) (by simp [dkA, starA, bsA]) (by simp [dkA, starA, bsA]) fun M f H => ?_
  clear hb hc
  have hp := H.at 0 rfl
  have hb := dk_cell hp
  refine F2_at (i := i) (dk_row hp) (by omega) fun r' y' hr1' hy' hR => ?_
  rw [hr1] at hr1'
  cases hr1'
  rw [hpf, hy] at hy'
  cases hy'
  have hE := RdS.elO (dk_rds hp) rfl hr1 (by decide)
  have hc := hE.cell 1 _ rfl
  rw [ev] at hc
  have hRb := hR.2.2.1
  rw [ev] at hRb
  refine Exists.elim (RdS.cut (by decide) hRb 0 n (by omega) (by omega)) fun a' hh => Exists.elim hh fun c' hcr => ?_
  have hcc := hcr.1
  have hcb := hcr.2.1
  clear hh hcr
  rw [List.drop_zero, Nat.sub_zero] at hcb
  rw [Nat.sub_zero] at hcc
  have hcc : cutS 1 a3 c3 0 (n : Nat) = some (.slice a' n c') := hcc
  have hnl : (y.b.take n).length = n := by rw [List.length_take]; omega
  have hcl : RdB M (.slice a' n c') (y.b.take n) := hcb
  simp (disch := omega) only [go_sem, undef, hb, dkC, rd_ixs, hc, dec_t (show ((0 : Nat) : Int) = 0 from rfl), rd_slc01, hcc]
  refine callN H (clone_s hcl (by omega)) fun u M A' eA f3 H => ?_
  subst eA
  refine Own.formK (H.at 0 rfl) fun a4 c4 e4 => ?_
  subst e4
  have hb := f3.get hb (by simp)
  simp (disch := omega) only [go_sem, undef, hb, dkC, rd_ixs]
  rw [hnl] at *
  have H := Hq.open3 (H.perm (List.Perm.swap ..))
  refine putFile (r' := (r.1, .slice a4 n c4, r.2.2)) H.rot3 hr1 (by decide) rfl fun M f H => ?_
  have hset : (rs.set i (r.1, .slice a4 n c4, r.2.2))[i]? = some (r.1, .slice a4 n c4, r.2.2) := by rw [List.getElem?_set_self (by omega)]
  have hE := RdS.elO (Own.rds (k := 3) (enc := rowE) (by decide) rowE_len (H.at 0 rfl)) (by rw [List.length_set]) hset (by decide)
  have hc := hE.cell 2 _ rfl
  have hkk : r.2.2 = y.kept := hR.2.1
  rw [hkk] at hc H hset
  have hmn : min ((y.kept : Nat) : Int) ((n : Nat) : Int) = ((min y.kept n : Nat) : Int) := by omega
  simp (disch := omega) only [go_sem, undef, hc, hmn]
  refine putFile (r' := (r.1, .slice a4 n c4, min y.kept n)) H hset (by decide) rfl fun M f H => ?_
  rw [List.set_set] at H
  have H := bs_put (i := i) (r := r) (r' := (r.1, .slice a4 n c4, min y.kept n)) (f' := cutT n y) H.rev4 rfl rfl hR.1 rfl
  have e2 : D1.fl.set i (cutT n y) = D.fl.modify i (cutT n) := by
    rw [hpf, modify_set hy]
  rw [e2] at H
  have H := Hq.close3 (D := { D1 with fl := D.fl.modify i (cutT n) }) H.rot3'.rot3'
  simp (disch := omega) only [go_sem, undef]
  exact cm_done H
end Go.Fw
namespace Go.Fw
open Go.Proofs
variable {m m0 M : Mem} {S : List Nat} {L : List As}
variable {rb wb : Nat} {fv : Value} {rs : List Row} {D : Dk}
/-! names of segments, read back -/
theorem tw_app (a b : Bs) (h : (46 : UInt8) ∉ a) : (a ++ 46 :: b).takeWhile (· != 46) = a := by
  induction a with
  | nil => rfl
  | cons x r ih =>
    have hx : x ≠ 46 := fun e => h (e ▸ List.mem_cons_self ..)
    rw [List.cons_append, List.takeWhile_cons_of_pos (by simpa using hx), ih fun hh => h (List.mem_cons_of_mem _ hh)]
theorem dg_inj {a b : Nat} (ha : a < 100) (hb : b < 100) (h : dg a = dg b) : a = b := by rw [← dval_dg a ha, ← dval_dg b hb, h]
theorem nmB_inj {g k g' k' : Nat} (hg : g < 100) (hk : k < 100) (hg' : g' < 100) (hk' : k' < 100) (h : nmB g k = nmB g' k') : g = g' ∧ k = k' := by
  unfold nmB at h
  have h := List.append_cancel_left h
  have h1 : dg g = dg g' := by rw [← tw_app (dg g) (dg k) (dot_nin g hg), h, tw_app _ _ (dot_nin g' hg')]
  rw [h1] at h
  have h2 := List.append_cancel_left h
  injection h2 with _ h2
  exact ⟨dg_inj hg hg' h1, dg_inj hk hk' h2⟩
def plAll : List (Nat × Nat) := (List.range 99).flatMap fun g => (List.range 99).map fun k => (g + 1, k + 1)
theorem plAll_mem {p : Nat × Nat} : p ∈ plAll ↔ 0 < p.1 ∧ p.1 < 100 ∧ 0 < p.2 ∧ p.2 < 100 := by
  obtain ⟨g, k⟩ := p
  simp only [plAll, List.mem_flatMap, List.mem_range, List.mem_map, Prod.mk.injEq]
  constructor
  · rintro ⟨a, ha, b, hb, rfl, rfl⟩; omega
  · rintro ⟨h1, h2, h3, h4⟩; exact ⟨g - 1, by omega, k - 1, by omega, by omega, by omega⟩
def plF (nm : Bs) : Option (Nat × Nat) := plAll.find? fun p => nmB p.1 p.2 == nm
theorem plF_some {nm : Bs} {p : Nat × Nat} (h : plF nm = some p) : 0 < p.1 ∧ p.1 < 100 ∧ 0 < p.2 ∧ p.2 < 100 ∧ nm = nmB p.1 p.2 := by
  have h1 := plAll_mem.1 (List.mem_of_find?_eq_some h)
  have h2 := List.find?_some h
  exact ⟨h1.1, h1.2.1, h1.2.2.1, h1.2.2.2, (by simpa using h2 : nmB p.1 p.2 = nm).symm⟩
theorem plF_nm {g k : Nat} (hg0 : 0 < g) (hg : g < 100) (hk0 : 0 < k) (hk : k < 100) : plF (nmB g k) = some (g, k) := by
  cases h : plF (nmB g k) with
  | none =>
    have := List.find?_eq_none.1 h (g, k) (plAll_mem.2 ⟨hg0, hg, hk0, hk⟩)
    simp at this
  | some p =>
    have h1 := plF_some h
    obtain ⟨e1, e2⟩ := nmB_inj hg hk h1.2.1 h1.2.2.2.1 h1.2.2.2.2
    obtain ⟨a, b⟩ := p
    exact congrArg some (Prod.ext e1.symm e2.symm)
attribute [irreducible] plF
def PlOk (nm : Bs) : Prop := plF nm = none → ∀ m, MC Tryz.prog n_wal_placed [.string (zb nm)] m fun u M => (∃ g k : Int, u = .tuple #[.agg #[.int .i64 g, .int .i64 k], .bool false]) ∧ Fr m M []
theorem placed_g {nm : Bs} (h : PlOk nm) (m : Mem) : MC Tryz.prog n_wal_placed [.string (zb nm)] m fun u M => (∃ g k : Int, u = .tuple #[.agg #[.int .i64 g, .int .i64 k], .bool (plF nm).isSome] ∧ ∀ p, plF nm = some p → g = (p.1 : Nat) ∧ k = (p.2 : Nat)) ∧ Fr m M [] := by
  cases hp : plF nm with
  | none =>
    refine (h hp m).mono fun u M ⟨⟨g, k, e⟩, f⟩ => ⟨⟨g, k, e, ?_⟩, f⟩
    intro p hp; cases hp
  | some p =>
    obtain ⟨h1, h2, h3, h4, rfl⟩ := plF_some hp
    refine (placed_s p.1 p.2 h2 h4 h1 h3).mono fun u M ⟨e, f⟩ => ⟨⟨_, _, e, ?_⟩, f⟩
    intro q hq; cases hq; exact ⟨rfl, rfl⟩
/-- the greatest whole generation -/
def grN (fl : List Fl) : List Bs → Nat → Nat
  | [], best => best
  | nm :: r, best => match plF nm with
    | none => grN fl r best
    | some p => if p.1 ≤ best then grN fl r best else if (readG fl p.1).2.2.2 then grN fl r p.1 else grN fl r best
def grF (fl : List Fl) : Nat := grN fl (fl.map Fl.name) 0
theorem grN_drop (fl : List Fl) (l : List Bs) (j best : Nat) (x : Bs) (hx : l[j]? = some x) : grN fl (l.drop j) best = match plF x with
    | none => grN fl (l.drop (j + 1)) best
    | some p => if p.1 ≤ best then grN fl (l.drop (j + 1)) best else if (readG fl p.1).2.2.2 then grN fl (l.drop (j + 1)) p.1 else grN fl (l.drop (j + 1)) best := by
  have hj := (List.getElem?_eq_some_iff.1 hx).1
  rw [List.drop_eq_getElem_cons hj, (List.getElem?_eq_some_iff.1 hx).2]; rfl
set_option maxHeartbeats 8000000 in
theorem greatest_s (h : (dkA rb fv rs D).p m) (hpl : ∀ x ∈ D.fl, PlOk x.name) (h99 : ∀ g, g < 100 → lookF (nmB g 99) D.fl = none) (hn : D.fl.length ≤ 90000) (hT : tot D.fl ≤ 5000000) :
    MC Tryz.prog n_wal_greatest [lpD rb] m fun u M => u = .int .i64 (grF D.fl : Nat) ∧ Fr m M [] := by
  refine wal_greatest_go (by simp [Tryz.f33]) ?_
  have H := Hq.refl m []
  have hpl : ∀ nm ∈ D.fl.map Fl.name, PlOk nm := fun nm hnm => by
    obtain ⟨x, hx, rfl⟩ := List.mem_map.1 hnm
    exact hpl x hx
  have hnl : (D.fl.map Fl.name).length ≤ 90000 := by rw [List.length_map]; exact hn
  have hgr : grF D.fl = grN D.fl ((D.fl.map Fl.name).drop 0) 0 := rfl
  simp (disch := omega) only [go_sem, undef]
  refine callN H (names_s h (by omega)) fun u M A' eA f H => ?_
  subst eA
  generalize D.fl.map Fl.name = ns at *
  refine Own.formK (H.at 0 rfl) fun a c e => ?_
  subst e
  simp (disch := omega) only [go_sem, undef]
  refine loopQ_intro (fun k E m' => ∃ j best, j ≤ ns.length ∧ k = ns.length - j ∧ best < 100 ∧ E = [(0, lpD rb), (3, .int .i64 (best : Nat)), (13, .slice a ns.length c), (14, .int .i64 (ns.length : Nat)), (15, .int .i64 (j : Nat))] ∧ grF D.fl = grN D.fl (ns.drop j) best ∧ Hq m m' [] [nsA (.slice a ns.length c) ns]) ns.length rfl ⟨0, 0, by omega, by omega, by omega, rfl, hgr, H⟩ ?_
  clear H f hgr
  rintro k E M1 ⟨j, best, hj, rfl, hb100, rfl, hgr, H⟩
  simp (disch := omega) only [go_sem, undef]
  refine condB_dec (fun hlt => ?_) (fun hlt => ?_)
  · have hlt : j < ns.length := by omega
    refine RdS.elK (Own.rds (k := 1) (enc := nmE) (by decide) nmE_len (H.at 0 rfl)) hlt (by decide) fun bx o x hx hix hE => ?_
    rw [grN_drop D.fl ns j best x hx] at hgr
    have hpg := fun m => placed_g (hpl x (List.mem_of_getElem? hx)) m
    have hnm0 : (nmE x)[0]? = some (.string (zb x)) := rfl
    simp (disch := omega) only [go_sem, undef, hix, hE.ld0, hnm0]
    refine callR H (hpg _) fun u M hR f H => ?_
    refine Exists.elim hR fun g1 hh => Exists.elim hh fun k1 hh => ?_
    have eu := hh.1
    have hpp := hh.2
    clear hh hR
    subst eu
    cases hplx : plF x with
    | none =>
      rw [hplx] at hgr
      have hnn : (none : Option (Nat × Nat)).isSome = false := rfl
      simp (disch := omega) only [go_sem, undef, hnn]
      refine newQ H fun b0 M f H => ?_
      simp (disch := omega) only [go_sem, undef]
      refine stwQ0 H rfl rfl fun M f H => ?_
      simp (disch := omega) only [go_sem, undef]
      exact handN_intro (ns.length - (j + 1)) (by omega) ⟨j + 1, best, by omega, rfl, hb100, rfl, hgr, H.tail⟩
    | some p =>
      rw [hplx] at hgr hpp
      have hss : (some p).isSome = true := rfl
      obtain ⟨e1, e2⟩ := hpp p rfl
      subst e1 e2
      have hp2 := plF_some hplx
      simp (disch := omega) only [go_sem, undef, hss]
      refine newQ H fun b0 M f H => ?_
      simp (disch := omega) only [go_sem, undef]
      refine stwQ0 H rfl rfl fun M f H => ?_
      simp (disch := omega) only [go_sem, undef, H.cs]
      refine condB_dec (fun hle => ?_) (fun hle => ?_)
      · have hle : p.1 ≤ best := by omega
        have hgr : grF D.fl = grN D.fl (ns.drop (j + 1)) best := by rw [hgr]; exact if_pos hle
        simp (disch := omega) only [go_sem, undef]
        exact handN_intro (ns.length - (j + 1)) (by omega) ⟨j + 1, best, by omega, rfl, hb100, rfl, hgr, H.tail⟩
      · have hle : ¬ p.1 ≤ best := by omega
        have hgr : grF D.fl = if (readG D.fl p.1).2.2.2 then grN D.fl (ns.drop (j + 1)) p.1 else grN D.fl (ns.drop (j + 1)) best := by rw [hgr]; exact if_neg hle
        have hd := (dkA rb fv rs D).fr0 h H.fr
        simp (disch := omega) only [go_sem, undef, H.cs]
        refine callN H (wal_read_s hd p.1 hp2.2.1 (h99 p.1 hp2.2.1) hn hT) fun u M A' hR f H => ?_
        obtain ⟨w2, vs2, rfl, rfl⟩ := hR
        have hcell := H.cs.1
        generalize readG D.fl p.1 = rg at *
        obtain ⟨recs, last, size, whole⟩ := rg
        simp (disch := omega) only [go_sem, undef, plV]
        refine newQ H fun b1 M f H => ?_
        simp (disch := omega) only [go_sem, undef]
        refine stwQ0 H rfl rfl fun M f H => ?_
        have hcell := H.cs.2.1
        cases whole with
        | true =>
          have hgr : grF D.fl = grN D.fl (ns.drop (j + 1)) p.1 := hgr
          simp (disch := omega) only [go_sem, undef, hcell]
          exact handN_intro (ns.length - (j + 1)) (by omega) ⟨j + 1, p.1, by omega, rfl, hp2.2.1, rfl, hgr, H.tail.tail.tail⟩
        | false =>
          have hgr : grF D.fl = grN D.fl (ns.drop (j + 1)) best := hgr
          simp (disch := omega) only [go_sem, undef, hcell]
          exact handN_intro (ns.length - (j + 1)) (by omega) ⟨j + 1, best, by omega, rfl, hb100, rfl, hgr, H.tail.tail.tail⟩
  · have e : j = ns.length := by omega
    subst e
    rw [List.drop_length] at hgr
    simp (disch := omega) only [go_sem, undef]
    rw [hgr]
    exact ⟨rfl, H.fr⟩
/-- what clean leaves -/
def clN (last : Nat × Nat) : List Bs → Dk → Dk × Nat
  | [], D => (D, 0)
  | nm :: r, D => match plF nm with
    | none => clN last r D
    | some p => if p.1 = last.1 ∧ p.2 ≤ last.2 then clN last r D else if (rmF nm D).2 ≠ 0 then rmF nm D else clN last r (rmF nm D).1
def clF (last : Nat × Nat) (D : Dk) : Dk × Nat := clN last (D.fl.map Fl.name) D
theorem clN_drop (last : Nat × Nat) (l : List Bs) (j : Nat) (D : Dk) (x : Bs) (hx : l[j]? = some x) : clN last (l.drop j) D = match plF x with
    | none => clN last (l.drop (j + 1)) D
    | some p => if p.1 = last.1 ∧ p.2 ≤ last.2 then clN last (l.drop (j + 1)) D else if (rmF x D).2 ≠ 0 then rmF x D else clN last (l.drop (j + 1)) (rmF x D).1 := by
  have hj := (List.getElem?_eq_some_iff.1 hx).1
  rw [List.drop_eq_getElem_cons hj, (List.getElem?_eq_some_iff.1 hx).2]; rfl
theorem rm_le (nm : Bs) (D : Dk) : (rmF nm D).1.fl.length ≤ D.fl.length ∧ (rmF nm D).1.left ≤ D.left := by
  have h1 := powF_le D
  have h2 := powF_fl D
  unfold rmF
  split
  · exact ⟨Nat.le_refl _, Nat.le_refl _⟩
  split
  · rw [h2]; exact ⟨Nat.le_refl _, h1.1⟩
  · exact ⟨(List.eraseIdx_sublist ..).length_le, h1.1⟩
set_option maxHeartbeats 8000000 in
theorem clean_s (h : (dkA rb fv rs D).p m) (hpl : ∀ x ∈ D.fl, PlOk x.name) (lg lk : Nat) (hn : D.fl.length ≤ 90000) (hl : D.left ≤ 9223372036854775807) :
    CM Tryz.prog n_wal_clean [lpD rb, .agg #[.int .i64 (lg : Int), .int .i64 (lk : Int)]] m (dkA rb fv rs D) (DkR rb (clF (lg, lk) D).1 (.int .i64 ((clF (lg, lk) D).2 : Nat))) := by
  have hpl : ∀ nm ∈ D.fl.map Fl.name, PlOk nm := fun nm hnm => by
    obtain ⟨x, hx, rfl⟩ := List.mem_map.1 hnm
    exact hpl x hx
  have hnl : (D.fl.map Fl.name).length ≤ 90000 := by rw [List.length_map]; exact hn
  have hgr : clF (lg, lk) D = clN (lg, lk) ((D.fl.map Fl.name).drop 0) D := rfl
  refine wal_clean_go (by simp [Tryz.f33]) ?_
  have H := Hq.one h
  simp (disch := omega) only [go_sem, undef]
  refine newQ H fun b0 M f0 H => ?_
  simp (disch := omega) only [go_sem, undef]
  refine callN H (names_s (H.at 1 rfl) (by omega)) fun u M A' eA f H => ?_
  subst eA
  generalize D.fl.map Fl.name = ns at *
  refine Own.formK (H.at 0 rfl) fun a c e => ?_
  subst e
  simp (disch := omega) only [go_sem, undef]
  refine loopQ_intro (fun k E m' => ∃ j D' fv' rs', j ≤ ns.length ∧ k = ns.length - j ∧ D'.fl.length ≤ 90000 ∧ D'.left ≤ 9223372036854775807 ∧ E = [(0, lpD rb), (3, .pointer (some ⟨b0, 0, none⟩)), (11, .slice a ns.length c), (12, .int .i64 (ns.length : Nat)), (13, .int .i64 (j : Nat))] ∧ clF (lg, lk) D = clN (lg, lk) (ns.drop j) D' ∧ Hq m m' (dkA rb fv rs D).wp [nsA (.slice a ns.length c) ns, cellA b0 (.cells (pc ((lg : Nat), (lk : Nat))).toArray 95 (0, 0)), dkA rb fv' rs' D']) ns.length rfl ⟨0, D, fv, rs, by omega, by omega, hn, hl, rfl, hgr, H⟩ ?_
  clear H f f0 hgr
  rintro k E M1 ⟨j, D', fv', rs', hj, rfl, hn', hl', rfl, hgr, H⟩
  simp (disch := omega) only [go_sem, undef]
  refine condB_dec (fun hlt => ?_) (fun hlt => ?_)
  · have hlt : j < ns.length := by omega
    refine RdS.elK (Own.rds (k := 1) (enc := nmE) (by decide) nmE_len (H.at 0 rfl)) hlt (by decide) fun bx o x hx hix hE => ?_
    rw [clN_drop (lg, lk) ns j D' x hx] at hgr
    have hpg := fun m => placed_g (hpl x (List.mem_of_getElem? hx)) m
    have hnm0 : (nmE x)[0]? = some (.string (zb x)) := rfl
    simp (disch := omega) only [go_sem, undef, hix, hE.ld0, hnm0]
    refine callR H (hpg _) fun u M hR f H => ?_
    refine Exists.elim hR fun g1 hh => Exists.elim hh fun k1 hh => ?_
    have eu := hh.1
    have hpp := hh.2
    clear hh hR
    subst eu
    cases hplx : plF x with
    | none =>
      rw [hplx] at hgr
      have hnn : (none : Option (Nat × Nat)).isSome = false := rfl
      simp (disch := omega) only [go_sem, undef, hnn]
      refine newQ H fun b1 M f H => ?_
      simp (disch := omega) only [go_sem, undef]
      refine stwQ0 H rfl rfl fun M f H => ?_
      simp (disch := omega) only [go_sem, undef]
      exact handN_intro (ns.length - (j + 1)) (by omega) ⟨j + 1, D', fv', rs', by omega, rfl, hn', hl', rfl, hgr, H.tail⟩
    | some p =>
      rw [hplx] at hgr hpp
      have hss : (some p).isSome = true := rfl
      obtain ⟨e1, e2⟩ := hpp p rfl
      subst e1 e2
      have hp2 := plF_some hplx
      simp (disch := omega) only [go_sem, undef, hss]
      refine newQ H fun b1 M f H => ?_
      simp (disch := omega) only [go_sem, undef]
      refine stwQ0 H rfl rfl fun M f H => ?_
      have hc1 := H.cs.1
      have hc2 := H.cs.2.1
      by_cases hkeep : p.1 = lg ∧ p.2 ≤ lk
      · have hgr : clF (lg, lk) D = clN (lg, lk) (ns.drop (j + 1)) D' := by rw [hgr]; exact if_pos hkeep
        simp (disch := omega) only [go_sem, undef, hc1, hc2, dec_t (show ((p.1 : Nat) : Int) = (lg : Nat) by omega), dec_t (show ((p.2 : Nat) : Int) ≤ (lk : Nat) by omega)]
        exact handN_intro (ns.length - (j + 1)) (by omega) ⟨j + 1, D', fv', rs', by omega, rfl, hn', hl', rfl, hgr, H.tail⟩
      · have hgr : clF (lg, lk) D = if (rmF x D').2 ≠ 0 then rmF x D' else clN (lg, lk) (ns.drop (j + 1)) (rmF x D').1 := by rw [hgr]; exact if_neg hkeep
        have hrl := rm_le x D'
        have hrm := remove_s (H.at 3 rfl) x (by omega) hl'
        generalize rmF x D' = rr at *
        obtain ⟨D2, e2⟩ := rr
        have hrl1 : D2.fl.length ≤ D'.fl.length := hrl.1
        have hrl2 : D2.left ≤ D'.left := hrl.2
        by_cases hg : p.1 = lg
        · have hk : ¬ p.2 ≤ lk := fun h => hkeep ⟨hg, h⟩
          simp (disch := omega) only [go_sem, undef, hc1, hc2, dec_t (show ((p.1 : Nat) : Int) = (lg : Nat) by omega), dec_f (show ¬ ((p.2 : Nat) : Int) ≤ (lk : Nat) by omega)]
          refine callA 3 H hrm rfl fun u M A' hR f H => ?_
          obtain ⟨eu, fv2, rs2, eA⟩ := hR
          subst eu eA
          simp only [List.set_cons_succ, List.set_cons_zero] at H
          by_cases he : e2 = 0
          · subst he
            have hgr : clF (lg, lk) D = clN (lg, lk) (ns.drop (j + 1)) D2 := by rw [hgr]; exact if_neg (by simp)
            simp (disch := omega) only [go_sem, undef, dec_f (show ¬ ((0 : Nat) : Int) ≠ 0 by simp)]
            exact handN_intro (ns.length - (j + 1)) (by omega) ⟨j + 1, D2, fv2, rs2, by omega, rfl, by omega, by omega, rfl, hgr, H.tail⟩
          · have hgr : clF (lg, lk) D = (D2, e2) := by rw [hgr]; exact if_pos he
            simp (disch := omega) only [go_sem, undef, dec_t (show ((e2 : Nat) : Int) ≠ 0 by omega)]
            rw [hgr]
            exact cm_done H.tail.tail.tail
        · simp (disch := omega) only [go_sem, undef, hc1, hc2, dec_f (show ¬ ((p.1 : Nat) : Int) = (lg : Nat) by omega)]
          refine callA 3 H hrm rfl fun u M A' hR f H => ?_
          obtain ⟨eu, fv2, rs2, eA⟩ := hR
          subst eu eA
          simp only [List.set_cons_succ, List.set_cons_zero] at H
          by_cases he : e2 = 0
          · subst he
            have hgr : clF (lg, lk) D = clN (lg, lk) (ns.drop (j + 1)) D2 := by rw [hgr]; exact if_neg (by simp)
            simp (disch := omega) only [go_sem, undef, dec_f (show ¬ ((0 : Nat) : Int) ≠ 0 by simp)]
            exact handN_intro (ns.length - (j + 1)) (by omega) ⟨j + 1, D2, fv2, rs2, by omega, rfl, by omega, by omega, rfl, hgr, H.tail⟩
          · have hgr : clF (lg, lk) D = (D2, e2) := by rw [hgr]; exact if_pos he
            simp (disch := omega) only [go_sem, undef, dec_t (show ((e2 : Nat) : Int) ≠ 0 by omega)]
            rw [hgr]
            exact cm_done H.tail.tail.tail
  · have e : j = ns.length := by omega
    subst e
    rw [List.drop_length] at hgr
    simp (disch := omega) only [go_sem, undef]
    rw [hgr]
    exact cm_done H.tail.tail
end Go.Fw
namespace Go.Fw
open Go.Proofs
variable {m m0 M : Mem} {S : List Nat} {L : List As}
variable {rb wb : Nat} {fv : Value} {rs : List Row} {D : Dk}
theorem segN_ok (fl : List Fl) (g : Nat) : ∀ f k all lk size r, segN fl g f k all lk size = some r → (r.2.1 = lk ∧ r.2.2 = size) ∨ (k ≤ r.2.1 ∧ r.2.1 < k + f ∧ r.2.2 ≤ tot fl)
  | 0, k, all, lk, size, r, h => by
    simp only [segN, Option.some.injEq] at h; subst h; exact .inl ⟨rfl, rfl⟩
  | f + 1, k, all, lk, size, r, h => by
    rw [segN] at h
    cases hl : lookF (nmB g k) fl with
    | none =>
      rw [hl] at h
      simp only [Option.some.injEq] at h; subst h; exact .inl ⟨rfl, rfl⟩
    | some x =>
      rw [hl] at h
      simp only at h
      have h1 := lookF_tot hl
      have h2 := scanF_le x.b
      split at h
      · cases h
      split at h
      · simp only [Option.some.injEq] at h; subst h; exact .inr ⟨Nat.le_refl _, by simp only; omega, by simp only; omega⟩
      · rcases segN_ok fl g f (k + 1) _ _ _ r h with ⟨e1, e2⟩ | ⟨e1, e2, e3⟩
        · exact .inr ⟨by omega, by omega, by omega⟩
        · exact .inr ⟨by omega, by omega, e3⟩
theorem readG_ok (fl : List Fl) (g : Nat) : (readG fl g).2.1.1 ≤ g ∧ (readG fl g).2.1.2 < 100 ∧ (readG fl g).2.2.1 ≤ tot fl := by
  unfold readG
  cases h : segN fl g 99 1 [] 0 0 with
  | none => simp
  | some r =>
    obtain ⟨all, lk, size⟩ := r
    have := segN_ok fl g 99 1 [] 0 0 _ h
    simp only at this ⊢
    split <;> simp only [plC] <;> split <;> omega
theorem grN_lt (fl : List Fl) : ∀ l best, best < 100 → grN fl l best < 100
  | [], best, h => h
  | nm :: r, best, h => by
    unfold grN
    cases hp : plF nm with
    | none => exact grN_lt fl r best h
    | some p =>
      have := plF_some hp
      simp only
      split
      · exact grN_lt fl r best h
      split
      · exact grN_lt fl r p.1 this.2.1
      · exact grN_lt fl r best h
theorem tot_erase (l : List Fl) (i : Nat) : tot (l.eraseIdx i) ≤ tot l := by
  induction l generalizing i with
  | nil => simp
  | cons x r ih =>
    cases i with
    | zero => simp [tot]
    | succ i =>
      have := ih i
      simp only [tot, List.eraseIdx_cons_succ, List.map_cons, List.sum_cons] at *; omega
theorem tot_mod (l : List Fl) (i : Nat) (g : Fl → Fl) (hg : ∀ f, (g f).b.length ≤ f.b.length) : tot (l.modify i g) ≤ tot l := by
  induction l generalizing i with
  | nil => simp
  | cons x r ih =>
    cases i with
    | zero => have := hg x; simp [tot]; omega
    | succ i =>
      have := ih i
      simp only [tot, List.modify_succ_cons, List.map_cons, List.sum_cons] at *; omega
theorem rm_tot (nm : Bs) (D : Dk) : tot (rmF nm D).1.fl ≤ tot D.fl := by
  have h2 := powF_fl D
  unfold rmF
  split
  · exact Nat.le_refl _
  split
  · rw [h2]; exact Nat.le_refl _
  · exact tot_erase _ _
theorem cl_le (last : Nat × Nat) : ∀ (l : List Bs) (D : Dk), (clN last l D).1.fl.length ≤ D.fl.length ∧ (clN last l D).1.left ≤ D.left ∧ tot (clN last l D).1.fl ≤ tot D.fl
  | [], D => ⟨Nat.le_refl _, Nat.le_refl _, Nat.le_refl _⟩
  | nm :: r, D => by
    have h1 := rm_le nm D
    have h2 := rm_tot nm D
    have h3 := cl_le last r (rmF nm D).1
    unfold clN
    cases plF nm with
    | none => exact cl_le last r D
    | some p =>
      simp only
      split
      · exact cl_le last r D
      split
      · exact ⟨h1.1, h1.2, h2⟩
      · exact ⟨by omega, by omega, by omega⟩
theorem names_modify (l : List Fl) (i : Nat) (g : Fl → Fl) (hg : ∀ f, (g f).name = f.name) : (l.modify i g).map Fl.name = l.map Fl.name := by
  induction l generalizing i with
  | nil => simp
  | cons x r ih =>
    cases i with
    | zero => simp [hg]
    | succ i => simp [ih i]
theorem cut_le (nm : Bs) (n : Nat) (D : Dk) : (cutF nm n D).1.fl.length = D.fl.length ∧ (cutF nm n D).1.left ≤ D.left ∧ tot (cutF nm n D).1.fl ≤ tot D.fl ∧ (cutF nm n D).1.fl.map Fl.name = D.fl.map Fl.name := by
  have h1 := powF_le D
  have h2 := powF_fl D
  unfold cutF
  split
  · exact ⟨rfl, Nat.le_refl _, Nat.le_refl _, rfl⟩
  split
  · exact ⟨rfl, Nat.le_refl _, Nat.le_refl _, rfl⟩
  split
  · rw [h2]; exact ⟨rfl, h1.1, Nat.le_refl _, rfl⟩
  · exact ⟨by simp, h1.1, tot_mod _ _ _ fun f => by simp [cutT]; omega, names_modify _ _ _ fun f => rfl⟩
/-- what Open leaves: the log and what it holds, the disk, why not -/
def opF (D : Dk) : (Option Wl × List Bs) × Dk × Nat :=
  if grF D.fl = 0 then
    if (clF (0, 0) D).2 ≠ 0 then ((none, []), clF (0, 0) D) else ((some ⟨0, 0, false⟩, []), (clF (0, 0) D).1, 0)
  else
    let r := readG D.fl (grF D.fl)
    let c := if r.2.2.1 < (rdB (lookF (nmB r.2.1.1 r.2.1.2) D.fl)).length then cutF (nmB r.2.1.1 r.2.1.2) r.2.2.1 D else (D, 0)
    if c.2 ≠ 0 then ((none, []), c) else
    let k := clF r.2.1 c.1
    if k.2 ≠ 0 then ((none, []), k) else
    let s := syncF (nmB r.2.1.1 r.2.1.2) k.1
    if s.2 ≠ 0 then ((none, []), s) else ((some ⟨r.2.1.1, r.2.1.2, false⟩, r.1), s.1, 0)
def OpR (rb : Nat) (o : (Option Wl × List Bs) × Dk × Nat) (u : Value) (A : As) : Prop :=
  match o.1.1 with
  | none => u = .tuple #[.pointer none, .slice none 0 0, .int .i64 (o.2.2 : Nat)] ∧ ∃ fv rs, A = dkA rb fv rs o.2.1
  | some W => ∃ wb w vs fv rs, u = .tuple #[lpD wb, w, .int .i64 0] ∧ A = starA (rbA w vs o.1.2) (wlA wb rb fv rs W o.2.1)
theorem op_fail {fv' : Value} {rs' : List Row} {D' : Dk} {e : Nat} {l : List Bs} {o : (Option Wl × List Bs) × Dk × Nat} (ho : o = ((none, l), D', e)) (H : Hq m M (dkA rb fv rs D).wp [dkA rb fv' rs' D']) :
    ∃ A', OpR rb o (.tuple #[.pointer none, .slice none 0 0, .int .i64 (e : Nat)]) A' ∧ A'.p M ∧ Fr m M (dkA rb fv rs D).wp ∧ (∀ b ∈ A'.fp, b ∈ (dkA rb fv rs D).fp ∨ m b = none) ∧ ∀ b ∈ A'.wp, b ∈ (dkA rb fv rs D).wp ∨ m b = none := by
  subst ho
  exact ⟨_, ⟨rfl, _, _, rfl⟩, H.hs.1, H.fr, fun b hb => by rw [dk_fw]; rw [dk_fw] at hb; exact H.done.2.2 b hb, H.done.2.2⟩
theorem op_done {fv' w : Value} {rs' : List Row} {vs : List Value} {l : List Bs} {D' : Dk} {W : Wl} {wb : Nat} {e : Nat} {o : (Option Wl × List Bs) × Dk × Nat} (ho : o = ((some W, l), D', e)) (H : Hq m M (dkA rb fv rs D).wp [rbA w vs l, wlA wb rb fv' rs' W D']) :
    ∃ A', OpR rb o (.tuple #[lpD wb, w, .int .i64 0]) A' ∧ A'.p M ∧ Fr m M (dkA rb fv rs D).wp ∧ (∀ b ∈ A'.fp, b ∈ (dkA rb fv rs D).fp ∨ m b = none) ∧ ∀ b ∈ A'.wp, b ∈ (dkA rb fv rs D).wp ∨ m b = none := by
  subst ho
  have H := H.join
  have e : (starA (rbA w vs l) (wlA wb rb fv' rs' W D')).fp = (starA (rbA w vs l) (wlA wb rb fv' rs' W D')).wp := by
    show (rbA w vs l).fp ++ (wlA wb rb fv' rs' W D').fp = (rbA w vs l).wp ++ (wlA wb rb fv' rs' W D').wp
    rw [wl_fw]; rfl
  exact ⟨_, ⟨_, _, _, _, _, rfl, rfl⟩, H.hs.1, H.fr, fun b hb => by rw [dk_fw]; rw [e] at hb; exact H.done.2.2 b hb, H.done.2.2⟩
abbrev opTail : NC := .seq (.seq wal_Open_r15 (.seq wal_Open_r16 (.cond (.slot 62) (.seq wal_Open_r17 .ret) .skip))) (.seq (.seq wal_Open_r18 (.seq wal_Open_r19 (.cond (.slot 69) (.seq wal_Open_r20 .ret) .skip))) (.seq wal_Open_r21 .ret))
theorem open_code : wal_Open_c = .seq wal_Open_r0 (.seq (.seq wal_Open_r1 (.cond (.slot 17) (.seq wal_Open_r2 .ret) .skip)) (.seq wal_Open_r3 (.seq (.seq wal_Open_r4 (.cond (.slot 21) (.seq (.seq wal_Open_r5 (.seq wal_Open_r6 (.cond (.slot 26) (.seq wal_Open_r7 .ret) .skip))) (.seq wal_Open_r8 .ret)) .skip)) (.seq wal_Open_r9 (.seq (.seq wal_Open_r10 (.seq wal_Open_r11 (.cond (.slot 49) (.seq wal_Open_r12 (.seq wal_Open_r13 (.cond (.slot 56) (.seq wal_Open_r14 .ret) .skip))) .skip))) opTail))))) := rfl
def tlF (lg lk : Nat) (recs : List Bs) (D1 : Dk) : (Option Wl × List Bs) × Dk × Nat :=
  if (clF (lg, lk) D1).2 ≠ 0 then ((none, []), clF (lg, lk) D1) else
    if (syncF (nmB lg lk) (clF (lg, lk) D1).1).2 ≠ 0 then ((none, []), syncF (nmB lg lk) (clF (lg, lk) D1).1) else ((some ⟨lg, lk, false⟩, recs), (syncF (nmB lg lk) (clF (lg, lk) D1).1).1, 0)
set_option maxHeartbeats 8000000 in
theorem op_tail {E : Env} {b0 lg lk : Nat} {w fv1 : Value} {rs1 : List Row} {vs : List Value} {recs : List Bs} {D1 : Dk} {o : (Option Wl × List Bs) × Dk × Nat} (hlg : lg < 100) (hlk : lk < 100) (hpl : ∀ x ∈ D1.fl, PlOk x.name) (hn : D1.fl.length ≤ 90000) (hT : tot D1.fl ≤ 5000000) (hl : D1.left ≤ 9223372036854775807)
    (e0 : E.get 0 = lpD rb) (e7 : E.get 7 = w) (e8 : E.get 8 = .pointer (some ⟨b0, 0, none⟩)) (h0 : E.has 0 = true) (h7 : E.has 7 = true) (h8 : E.has 8 = true)
    (H : Hq m M (dkA rb fv rs D).wp [cellA b0 (.cells (pc ((lg : Nat), (lk : Nat))).toArray 95 (0, 0)), rbA w vs recs, dkA rb fv1 rs1 D1]) (ho : o = tlF lg lk recs D1) :
    wpN Tryz.prog opTail (retP [RV.slot 2, RV.slot 3, RV.slot 4] fun v M => ∃ A', OpR rb o v A' ∧ A'.p M ∧ Fr m M (dkA rb fv rs D).wp ∧ (∀ b ∈ A'.fp, b ∈ (dkA rb fv rs D).fp ∨ m b = none) ∧ ∀ b ∈ A'.wp, b ∈ (dkA rb fv rs D).wp ∨ m b = none) E M := by
  have hcl := clean_s (H.at 2 rfl) hpl lg lk hn hl
  have hle := cl_le (lg, lk) (D1.fl.map Fl.name) D1
  rw [show clN (lg, lk) (D1.fl.map Fl.name) D1 = clF (lg, lk) D1 from rfl] at hle
  unfold tlF at ho
  generalize clF (lg, lk) D1 = cr at *
  obtain ⟨D2, e2⟩ := cr
  simp only at hle ho
  have hsy := fun M fv rs (h : (dkA rb fv rs D2).p M) => sync_s h (nmB lg lk) (by omega) (by omega) (by omega)
  generalize syncF (nmB lg lk) D2 = sr at *
  obtain ⟨D3, e3⟩ := sr
  simp only at ho
  have hc := H.cs.1
  simp (disch := omega) only [go_sem, undef, e0, e7, e8, h0, h7, h8, hc]
  refine callA2 H hcl fun u M A' hR f H => ?_
  obtain ⟨eu, fv2, rs2, eA⟩ := hR
  subst eu eA
  by_cases he2 : e2 = 0
  · subst he2
    rw [if_neg (by simp)] at ho
    have hc := H.cs.1
    simp (disch := omega) only [go_sem, undef, e0, e7, e8, dec_f (show ¬ ((0 : Nat) : Int) ≠ 0 by simp), hc]
    refine callQ H (name_s lg lk hlg hlk) fun M f H => ?_
    simp (disch := omega) only [go_sem, undef, e0, e7, e8]
    refine callA2 H (hsy _ _ _ (H.at 2 rfl)) fun u M A' hR f H => ?_
    obtain ⟨eu, fv3, rs3, eA⟩ := hR
    subst eu eA
    by_cases he3 : e3 = 0
    · subst he3
      rw [if_neg (by simp)] at ho
      have hc := H.cs.1
      have hsp : spl 0 (pc (((lg : Nat) : Int), ((lk : Nat) : Int))) [Value.int .i64 0, .int .i64 0, .bool false] = some [.int .i64 (lg : Nat), .int .i64 (lk : Nat), .bool false] := rfl
      simp (disch := omega) only [go_sem, undef, e0, e7, e8, dec_f (show ¬ ((0 : Nat) : Int) ≠ 0 by simp), hc, hsp]
      refine newQ H fun b1 M f0 H => ?_
      simp (disch := omega) only [go_sem, undef, e0, e7, e8]
      have H := (H.drop 1).perm (List.Perm.cons _ (List.Perm.swap ..))
      exact op_done ho ((Hq.join (A := wcA b1 rb ⟨lg, lk, false⟩) H).perm (List.Perm.swap ..))
    · rw [if_pos he3] at ho
      simp (disch := omega) only [go_sem, undef, dec_t (show ((e3 : Nat) : Int) ≠ 0 by omega)]
      exact op_fail ho H.tail.tail
  · rw [if_pos he2] at ho
    simp (disch := omega) only [go_sem, undef, dec_t (show ((e2 : Nat) : Int) ≠ 0 by omega)]
    exact op_fail ho H.tail.tail
set_option maxHeartbeats 8000000 in
theorem open_s (h : (dkA rb fv rs D).p m) (hpl : ∀ x ∈ D.fl, PlOk x.name) (h99 : ∀ g, g < 100 → lookF (nmB g 99) D.fl = none) (hn : D.fl.length ≤ 90000) (hT : tot D.fl ≤ 5000000) (hl : D.left ≤ 9223372036854775807) (hkp : ∀ f ∈ D.fl, f.kept ≤ 1000000000) :
    CM Tryz.prog n_wal_Open [lpD rb] m (dkA rb fv rs D) (OpR rb (opF D)) := by
  have hgs := fun M (h : (dkA rb fv rs D).p M) => greatest_s h hpl h99 hn hT
  have hglt : grF D.fl < 100 := grN_lt _ _ _ (by decide)
  obtain ⟨o, ho⟩ : ∃ o, o = opF D := ⟨_, rfl⟩
  rw [← ho]
  unfold opF at ho
  have hns : (some (⟨rb, 0, none⟩ : Addr)).isNone = false := rfl
  have H := Hq.one h
  by_cases hg : grF D.fl = 0
  · rw [if_pos hg] at ho
    have hcl := fun M (h : (dkA rb fv rs D).p M) => clean_s h hpl 0 0 hn hl
    generalize clF (0, 0) D = cr at *
    obtain ⟨D1, e1⟩ := cr
    by_cases he : e1 = 0
    · subst he
      rw [if_neg (by simp)] at ho
      refine wal_Open_go (by simp [Tryz.f33]) ?_
      simp (disch := omega) only [go_sem, undef, hns]
      refine callQ H (hgs _ h) fun M f H => ?_
      simp (disch := omega) only [go_sem, undef, dec_t (show ((grF D.fl : Nat) : Int) = 0 by omega)]
      refine callA0 H (hcl _ (H.at 0 rfl)) fun u M A' hR f H => ?_
      obtain ⟨eu, fv1, rs1, eA⟩ := hR
      subst eu eA
      simp (disch := omega) only [go_sem, undef, dec_f (show ¬ ((0 : Nat) : Int) ≠ 0 by simp)]
      refine newQ H fun b0 M f0 H => ?_
      simp (disch := omega) only [go_sem, undef]
      have H := Hq.join (A := wcA b0 rb ⟨0, 0, false⟩) H
      exact op_done ho (H.add (A := rbA (.slice none 0 0) [] []) rb_nil (Fr.refl _ _) (by simp [rbA, blkOf]))
    · rw [if_pos he] at ho
      refine wal_Open_go (by simp [Tryz.f33]) ?_
      simp (disch := omega) only [go_sem, undef, hns]
      refine callQ H (hgs _ h) fun M f H => ?_
      simp (disch := omega) only [go_sem, undef, dec_t (show ((grF D.fl : Nat) : Int) = 0 by omega)]
      refine callA0 H (hcl _ (H.at 0 rfl)) fun u M A' hR f H => ?_
      obtain ⟨eu, fv1, rs1, eA⟩ := hR
      subst eu eA
      simp (disch := omega) only [go_sem, undef, dec_t (show ((e1 : Nat) : Int) ≠ 0 by omega)]
      exact op_fail ho H
  · rw [if_neg hg] at ho
    have hrd := fun M (h : (dkA rb fv rs D).p M) => wal_read_s h (grF D.fl) hglt (h99 _ hglt) hn hT
    have hok := readG_ok D.fl (grF D.fl)
    generalize readG D.fl (grF D.fl) = rg at *
    obtain ⟨recs, ⟨lg, lk⟩, size, whole⟩ := rg
    simp only at ho hok
    obtain ⟨hlg, hlk, hsz⟩ := hok
    have hcu := fun M (h : (dkA rb fv rs D).p M) => cut_s2 h (nmB lg lk) size (by omega) (by omega) hl (by omega) hkp
    have hcle := cut_le (nmB lg lk) size D
    generalize cutF (nmB lg lk) size D = cu at *
    obtain ⟨D1, e1⟩ := cu
    simp only at hcle
    obtain ⟨hc1, hc2, hc3, hc4⟩ := hcle
    have hpl1 : ∀ x ∈ D1.fl, PlOk x.name := fun x hx => by
      have : x.name ∈ D.fl.map Fl.name := by rw [← hc4]; exact List.mem_map_of_mem hx
      obtain ⟨y, hy, e⟩ := List.mem_map.1 this
      rw [← e]; exact hpl y hy
    refine wal_Open_go (by simp [Tryz.f33]) ?_
    rw [open_code]
    generalize hC : opTail = C
    simp (disch := omega) only [go_sem, undef, hns]
    refine callQ H (hgs _ h) fun M f H => ?_
    simp (disch := omega) only [go_sem, undef, dec_f (show ¬ ((grF D.fl : Nat) : Int) = 0 by omega)]
    refine callN H (hrd _ (H.at 0 rfl)) fun u M A' hR f H => ?_
    obtain ⟨w2, vs2, rfl, rfl⟩ := hR
    simp (disch := omega) only [go_sem, undef, plV]
    refine newQ H fun b0 M f H => ?_
    simp (disch := omega) only [go_sem, undef]
    refine stwQ0 H rfl rfl fun M f H => ?_
    have hc := H.cs.1
    simp (disch := omega) only [go_sem, undef, hc]
    refine callQ H (name_s lg lk (by omega) hlk) fun M f H => ?_
    simp (disch := omega) only [go_sem, undef]
    refine callN H (read_s (H.at 2 rfl) (nmB lg lk) (by omega) (by omega)) fun u M A' hR f H => ?_
    obtain ⟨w3, rfl, rfl⟩ := hR
    refine Own.formK (H.at 0 rfl) fun a4 c4 e4 => ?_
    subst e4
    simp (disch := omega) only [go_sem, undef]
    have H := H.tail
    refine condB_dec (fun hlt => ?_) (fun hlt => ?_)
    · have hlt : size < (rdB (lookF (nmB lg lk) D.fl)).length := by omega
      rw [if_pos hlt] at ho
      have hc := H.cs.1
      simp (disch := omega) only [go_sem, undef, hc]
      refine callQ H (name_s lg lk (by omega) hlk) fun M f H => ?_
      simp (disch := omega) only [go_sem, undef]
      refine callA2 H (hcu _ (H.at 2 rfl)) fun u M A' hR f H => ?_
      obtain ⟨eu, fv1, rs1, eA⟩ := hR
      subst eu eA
      by_cases he1 : e1 = 0
      · subst he1
        simp (disch := omega) only [go_sem, undef, dec_f (show ¬ ((0 : Nat) : Int) ≠ 0 by simp)]
        subst hC
        refine op_tail (by omega) hlk hpl1 (by omega) (by omega) (by omega) rfl rfl rfl rfl rfl rfl H ?_
        rw [if_neg (by simp)] at ho
        exact ho
      · simp only [if_pos he1] at ho
        simp (disch := omega) only [go_sem, undef, dec_t (show ((e1 : Nat) : Int) ≠ 0 by omega)]
        exact op_fail ho H.tail.tail
    · have hlt : ¬ size < (rdB (lookF (nmB lg lk) D.fl)).length := by omega
      rw [if_neg hlt, if_neg (by simp)] at ho
      subst hC
      exact op_tail (by omega) hlk hpl hn hT hl rfl rfl rfl rfl rfl rfl H ho
end Go.Fw
namespace Go.Fw
open Go.Proofs
variable {m m0 M : Mem} {S : List Nat} {L : List As}
variable {rb wb : Nat} {fv : Value} {rs : List Row} {D : Dk}
/-- what Add leaves -/
def adK (W : Wl) (D : Dk) : Nat := if 4096 < (rdB (lookF (nmB W.g W.k) D.fl)).length then W.k + 1 else W.k
def addF (l : List Bs) (W : Wl) (D : Dk) : Wl × Dk × Nat :=
  if W.down then (W, D, 10) else if W.g = 0 then (W, D, 8) else if l = [] then (W, D, 0) else
    if (wrF (nmB W.g (adK W D)) (frs l) W D).2.2 ≠ 0 then wrF (nmB W.g (adK W D)) (frs l) W D
    else (⟨W.g, adK W D, (wrF (nmB W.g (adK W D)) (frs l) W D).1.down⟩, (wrF (nmB W.g (adK W D)) (frs l) W D).2.1, 0)
theorem wl_done2 {W W' : Wl} {fv' : Value} {rs' : List Row} {D' : Dk} {e : Nat} {o : Wl × Dk × Nat} (ho : o = (W', D', e)) (H : Hq m M (wlA wb rb fv rs W D).wp [wlA wb rb fv' rs' W' D']) :
    ∃ A', WlR wb rb o.1 o.2.1 (.int .i64 (o.2.2 : Nat)) (.int .i64 (e : Nat)) A' ∧ A'.p M ∧ Fr m M (wlA wb rb fv rs W D).wp ∧ (∀ b ∈ A'.fp, b ∈ (wlA wb rb fv rs W D).fp ∨ m b = none) ∧ ∀ b ∈ A'.wp, b ∈ (wlA wb rb fv rs W D).wp ∨ m b = none := by
  subst ho; exact wl_done H
theorem wr_gk (nm p : Bs) (W : Wl) (D : Dk) : (wrF nm p W D).1.g = W.g ∧ (wrF nm p W D).1.k = W.k := by
  unfold wrF
  split
  · exact ⟨rfl, rfl⟩
  split
  · exact ⟨rfl, rfl⟩
  · exact ⟨rfl, rfl⟩
/-- bytes that are only read from now on -/
def rdA (w : Value) (l : Bs) : As where
  fp := blkOf w
  wp := blkOf w
  sub _ h := h
  p m := RdB m w l ∧ ∀ b ∈ blkOf w, m b ≠ none
  st h e := ⟨h.1.st e, fun b hb => by rw [e b hb]; exact h.2 b hb⟩
  th h b hb := h.2 b hb
theorem frames_n {lv : Value} {vs : List Value} {ls : List Bs} (hv : RdS 1 v1 m lv vs) (hF : F2 (fun v l => RdB m v l) vs ls) (hok : ∀ p ∈ ls, okR p) (hl : vs.length ≤ 1000000) (hT : ls.flatten.length ≤ 100000000) :
    CN Tryz.prog n_wal_frames [.slice none 0 0, lv] m fun u A => ∃ w, u = .tuple #[w, .bool true] ∧ A = rdA w (frs ls) :=
  (frames_s (v0 := .slice none 0 0) (l0 := []) bytes_nil (by simp [blkOf]) hv hF hok hl (by simp) hT).mono fun u M ⟨⟨w, e, hw, hb⟩, f⟩ =>
    ⟨_, ⟨w, e, rfl⟩, ⟨hw, fun b hx => (hb b hx).1⟩, f, fun b hx => ((hb b hx).2).resolve_left (by simp [blkOf])⟩
theorem frames_m {v0 lv : Value} {l0 : Bs} {vs : List Value} {ls : List Bs} (h0 : (byA T_uint8 v0 l0).p m) (hv : RdS 1 v1 m lv vs) (hF : F2 (fun v l => RdB m v l) vs ls) (hok : ∀ p ∈ ls, okR p) (hl : vs.length ≤ 1000000) (hl0 : l0.length ≤ 1000000) (hT : ls.flatten.length ≤ 100000000) :
    CM Tryz.prog n_wal_frames [v0, lv] m (byA T_uint8 v0 l0) fun u A => ∃ w, u = .tuple #[w, .bool true] ∧ A = rdA w (l0 ++ frs ls) :=
  (frames_s (byA_rd h0) (fun b hb => h0.there b hb) hv hF hok hl hl0 hT).mono fun u M ⟨⟨w, e, hw, hb⟩, f⟩ =>
    ⟨_, ⟨w, e, rfl⟩, ⟨hw, fun b hx => (hb b hx).1⟩, f.sub (by simp), fun b hx => (hb b hx).2, fun b hx => (hb b hx).2⟩
abbrev addTail : NC := .seq (.seq wal_Wal_Add_r14 (.seq wal_Wal_Add_r15 (.cond (.slot 62) (.seq wal_Wal_Add_r16 .ret) .skip))) (.seq wal_Wal_Add_r17 (.seq wal_Wal_Add_r18 .ret))
theorem add_code : wal_Wal_Add_c = .seq wal_Wal_Add_r0 (.seq (.seq wal_Wal_Add_r1 (.cond (.slot 14) (.seq wal_Wal_Add_r2 .ret) .skip)) (.seq (.seq wal_Wal_Add_r3 (.cond (.slot 20) (.seq wal_Wal_Add_r4 .ret) .skip)) (.seq wal_Wal_Add_r5 (.seq (.seq wal_Wal_Add_r6 (.cond (.slot 27) (.seq wal_Wal_Add_r7 .ret) .skip)) (.seq (.seq wal_Wal_Add_r8 (.cond (.slot 30) (.seq wal_Wal_Add_r9 .ret) .skip)) (.seq wal_Wal_Add_r10 (.seq (.seq wal_Wal_Add_r11 (.seq wal_Wal_Add_r12 (.cond (.slot 52) wal_Wal_Add_r13 .skip))) addTail))))))) := rfl
set_option maxHeartbeats 8000000 in
theorem add_tail {E : Env} {b0 g k k3 e2 : Nat} {w fv' : Value} {rs' : List Row} {D2 : Dk} {down2 : Bool} {p : Bs} {W0 : Wl} {o : Wl × Dk × Nat}
    (e0 : E.get 0 = lpD wb) (e5 : E.get 5 = w) (e7 : E.get 7 = .pointer (some ⟨b0, 0, none⟩)) (h0 : E.has 0 = true) (h5 : E.has 5 = true) (h7 : E.has 7 = true)
    (H : Hq m M (wlA wb rb fv rs W0 D).wp [cellA b0 (.cells (pc ((g : Nat), (k3 : Nat))).toArray 95 (0, 0)), wlA wb rb fv' rs' ⟨g, k, false⟩ D, rdA w p])
    (hwr : RdB M w p → (∀ b ∈ blkOf w, b ∉ (wlA wb rb fv' rs' ⟨g, k, false⟩ D).wp ∧ M b ≠ none) → CM Tryz.prog n_wal_Wal_write [lpD wb, .agg #[.int .i64 (g : Int), .int .i64 (k3 : Int)], w] M (wlA wb rb fv' rs' ⟨g, k, false⟩ D) (WlR wb rb ⟨g, k, down2⟩ D2 (.int .i64 (e2 : Nat))))
    (ho : o = if e2 ≠ 0 then (⟨g, k, down2⟩, D2, e2) else (⟨g, k3, down2⟩, D2, 0)) :
    wpN Tryz.prog addTail (retP [RV.slot 4] fun v M => ∃ A', WlR wb rb o.1 o.2.1 (.int .i64 (o.2.2 : Nat)) v A' ∧ A'.p M ∧ Fr m M (wlA wb rb fv rs W0 D).wp ∧ (∀ b ∈ A'.fp, b ∈ (wlA wb rb fv rs W0 D).fp ∨ m b = none) ∧ ∀ b ∈ A'.wp, b ∈ (wlA wb rb fv rs W0 D).wp ∨ m b = none) E M := by
  have hc := H.cs.1
  have hrd := H.at 2 rfl
  have hap := (List.pairwise_cons.1 (List.pairwise_cons.1 H.dj).2).1 _ (List.mem_cons_self ..)
  have hwr := hwr hrd.1 fun b hb => ⟨fun h => hap.1 b h hb, hrd.2 b hb⟩
  simp (disch := omega) only [go_sem, undef, e0, e5, e7, h0, h5, h7, hc]
  refine callA1 H hwr fun u M A' hR f H => ?_
  obtain ⟨eu, fv2, rs2, eA⟩ := hR
  subst eu eA
  by_cases he : e2 = 0
  · subst he
    rw [if_neg (by simp)] at ho
    have hc := H.cs.1
    simp (disch := omega) only [go_sem, undef, e0, e5, e7, hc, dec_f (show ¬ ((0 : Nat) : Int) ≠ 0 by simp)]
    have H := (H.perm (List.Perm.swap ..)).split
    refine stQ0 H (show 1 + 2 ≤ 4 by decide) rfl fun M f H => ?_
    simp (disch := omega) only [go_sem, undef]
    exact wl_done2 ho (Hq.join (A := wcA wb rb ⟨g, k3, down2⟩) ((H.drop 2).drop 2))
  · rw [if_pos he] at ho
    simp (disch := omega) only [go_sem, undef, e0, e5, e7, dec_t (show ((e2 : Nat) : Int) ≠ 0 by omega)]
    exact wl_done2 ho (H.tail.drop 1)
set_option maxHeartbeats 8000000 in
theorem add_s {W : Wl} (h : (wlA wb rb fv rs W D).p m) (hg : W.g < 100) (hk : W.k < 99) {lv : Value} {vs : List Value} {l : List Bs} (hv : RdS 1 v1 m lv vs) (hF : F2 (fun v l => RdB m v l) vs l) (hok : ∀ p ∈ l, okR p) (hvl : vs.length ≤ 1000000) (hlt : l.flatten.length ≤ 100000000)
    (hn : D.fl.length ≤ 90000) (hl : D.left ≤ 9223372036854775807) (hT : tot D.fl ≤ 100000000) (hq : D.quota ≤ 500000000) :
    CM Tryz.prog n_wal_Wal_Add [lpD wb, lv] m (wlA wb rb fv rs W D) (WlR wb rb (addF l W D).1 (addF l W D).2.1 (.int .i64 ((addF l W D).2.2 : Nat))) := by
  have hll := F2_len hF
  have hfl : (frs l).length ≤ 106000000 := by rw [frs_len]; omega
  have hadk : adK W D < 100 := by unfold adK; split <;> omega
  have hfr := frames_n hv hF hok hvl hlt
  have hwr := fun M fv rs (h : (wlA wb rb fv rs W D).p M) (pv : Value) (hpv : RdB M pv (frs l)) (hpn) => write_s h W.g (adK W D) hg hadk (frs l) hpv hpn (by omega) (by omega) hl (by omega) hq
  have hwg := wr_gk (nmB W.g (adK W D)) (frs l) W D
  obtain ⟨o, ho⟩ : ∃ o, o = addF l W D := ⟨_, rfl⟩
  rw [← ho]
  unfold addF at ho
  generalize wrF (nmB W.g (adK W D)) (frs l) W D = wr at *
  obtain ⟨W2, D2, e2⟩ := wr
  obtain ⟨g, k, down⟩ := W
  obtain ⟨g2, k2, down2⟩ := W2
  simp only at ho hwg hg hk
  obtain ⟨rfl, rfl⟩ := hwg
  obtain ⟨a, c, rfl⟩ := hv.form
  have H := (Hq.one h).split
  have hw := H.cs.1
  cases down with
  | true =>
    rw [if_pos rfl] at ho
    refine wal_Wal_Add_go (by simp [Tryz.f33]) ?_
    simp (disch := omega) only [go_sem, undef, hw, wlC]
    exact wl_done2 ho H.join
  | false =>
    rw [if_neg (by simp)] at ho
    by_cases hg0 : g2 = 0
    · rw [if_pos hg0] at ho
      refine wal_Wal_Add_go (by simp [Tryz.f33]) ?_
      simp (disch := omega) only [go_sem, undef, hw, wlC, dec_t (show ((g2 : Nat) : Int) = 0 by omega)]
      exact wl_done2 ho H.join
    rw [if_neg hg0] at ho
    by_cases hl0 : l = []
    · rw [if_pos hl0] at ho
      have hv0 : vs.length = 0 := by rw [hll, hl0]; rfl
      refine wal_Wal_Add_go (by simp [Tryz.f33]) ?_
      simp (disch := omega) only [go_sem, undef, hw, wlC, dec_f (show ¬ ((g2 : Nat) : Int) = 0 by omega)]
      refine callN H hfr fun u M A' hR f H => ?_
      refine Exists.elim hR fun w hw2 => ?_
      rw [hw2.1]
      have H := H.tail
      simp (disch := omega) only [go_sem, undef, dec_t (show ((vs.length : Nat) : Int) = 0 by omega)]
      exact wl_done2 ho H.join
    rw [if_neg hl0] at ho
    have hv0 : ¬ vs.length = 0 := fun e => hl0 (List.eq_nil_of_length_eq_zero (by rw [← hll, e]))
    have hname := fun M => name_s (m := M) g2 k2 hg (by omega)
    have hread := fun M (h : (dkA rb fv rs D).p M) => read_s h (nmB g2 k2) (by omega) (by omega)
    obtain ⟨k3, hk3⟩ : ∃ k3, k3 = adK ⟨g2, k2, false⟩ D := ⟨_, rfl⟩
    rw [← hk3] at ho hwr
    unfold adK at hk3
    simp only at hk3 hwr
    generalize rdB (lookF (nmB g2 k2) D.fl) = old at *
    refine wal_Wal_Add_go (by simp [Tryz.f33]) ?_
    rw [add_code]
    generalize hC : addTail = C
    simp (disch := omega) only [go_sem, undef, hw, wlC, dec_f (show ¬ ((g2 : Nat) : Int) = 0 by omega)]
    refine callN H hfr fun u M A' hR f H => ?_
    refine Exists.elim hR fun w hw2 => ?_
    have eu := hw2.1
    have eA := hw2.2
    subst eu eA
    have H := H.rot3'.rot3'
    have hw := H.cs.1
    simp (disch := omega) only [go_sem, undef, hw, wlC, dec_f (show ¬ ((vs.length : Nat) : Int) = 0 by omega)]
    refine newQ H fun b0 M f0 H => ?_
    have hw := H.cs.2.1
    simp (disch := omega) only [go_sem, undef, hw, wlC]
    refine stwQ0 H rfl rfl fun M f1 H => ?_
    have hw := H.cs.2.1
    have hc := H.cs.1
    simp (disch := omega) only [go_sem, undef, hw, wlC, hc]
    refine callQ H (hname _) fun M f2 H => ?_
    have hw := H.cs.2.1
    have hc := H.cs.1
    simp (disch := omega) only [go_sem, undef, hw, wlC, hc]
    refine callN H (hread _ (H.at 2 rfl)) fun u M A' hR f3 H => ?_
    refine Exists.elim hR fun w3 hw3 => ?_
    have eu := hw3.1
    have eA := hw3.2
    subst eu eA
    refine Own.formK (H.at 0 rfl) fun a4 c4 e4 => ?_
    subst e4
    have H := H.tail
    have hw := H.cs.2.1
    have hc := H.cs.1
    simp (disch := omega) only [go_sem, undef, hw, wlC, hc]
    by_cases hlong : 4096 < old.length
    · rw [if_pos hlong] at hk3
      subst hk3
      simp (disch := omega) only [go_sem, undef, hc, dec_t (show ((old.length : Nat) : Int) > 4096 by omega), dec_t (show ((k2 : Nat) : Int) < 999999999 by omega)]
      refine wrQ0 H fun M f H => ?_
      simp (disch := omega) only [go_sem, undef]
      subst hC
      have H := H.rot3'.rot3'
      have H := (Hq.join (A := wcA wb rb ⟨g2, k2, false⟩) H).perm (List.Perm.swap ..)
      exact add_tail (k3 := k2 + 1) (down2 := down2) rfl rfl rfl rfl rfl rfl H (fun h1 h2 => hwr _ _ _ (H.at 1 rfl) _ h1 h2) ho
    · rw [if_neg hlong] at hk3
      subst hk3
      simp (disch := omega) only [go_sem, undef, hc, dec_f (show ¬ ((old.length : Nat) : Int) > 4096 by omega)]
      subst hC
      have H := H.rot3'.rot3'
      have H := (Hq.join (A := wcA wb rb ⟨g2, k3, false⟩) H).perm (List.Perm.swap ..)
      exact add_tail (k3 := k3) (down2 := down2) rfl rfl rfl rfl rfl rfl H (fun h1 h2 => hwr _ _ _ (H.at 1 rfl) _ h1 h2) ho
/-- what the removing of the old generation leaves -/
def anR (g : Nat) : Nat → Nat → Dk → Dk × Nat
  | 0, _, D => (D, 0)
  | f + 1, k, D => if (rmF (nmB g k) D).2 ≠ 0 then rmF (nmB g k) D else anR g f (k + 1) (rmF (nmB g k) D).1
def hdR (l : List Bs) : Bs := frO (numB (l.length : Nat)) ++ frs l
def anewF (l : List Bs) (W : Wl) (D : Dk) : Wl × Dk × Nat :=
  if W.down then (W, D, 10) else
    if (wrF (nmB (W.g + 1) 1) (hdR l) W D).2.2 ≠ 0 then wrF (nmB (W.g + 1) 1) (hdR l) W D
    else if (anR W.g W.k 1 (wrF (nmB (W.g + 1) 1) (hdR l) W D).2.1).2 ≠ 0 then (⟨W.g, W.k, true⟩, anR W.g W.k 1 (wrF (nmB (W.g + 1) 1) (hdR l) W D).2.1)
    else (⟨W.g + 1, 1, (wrF (nmB (W.g + 1) 1) (hdR l) W D).1.down⟩, (anR W.g W.k 1 (wrF (nmB (W.g + 1) 1) (hdR l) W D).2.1).1, 0)
abbrev anTail : NC := .seq (.seq wal_Wal_Anew_r12 (.block 0 (.loop [0, 7, 9] wal_Wal_Anew_l0))) (.seq wal_Wal_Anew_r19 (.seq wal_Wal_Anew_r20 .ret))
theorem anew_code : wal_Wal_Anew_c = .seq wal_Wal_Anew_r0 (.seq (.seq wal_Wal_Anew_r1 (.cond (.slot 14) (.seq wal_Wal_Anew_r2 .ret) .skip)) (.seq wal_Wal_Anew_r3 (.seq (.seq wal_Wal_Anew_r4 (.cond (.slot 25) (.seq wal_Wal_Anew_r5 .ret) .skip)) (.seq (.seq wal_Wal_Anew_r6 (.cond (.slot 31) (.seq wal_Wal_Anew_r7 .ret) .skip)) (.seq wal_Wal_Anew_r8 (.seq (.seq wal_Wal_Anew_r9 (.seq wal_Wal_Anew_r10 (.cond (.slot 44) (.seq wal_Wal_Anew_r11 .ret) .skip))) anTail)))))) := rfl
theorem wr_le (nm p : Bs) (W : Wl) (D : Dk) : (wrF nm p W D).2.1.fl.length ≤ D.fl.length + 1 ∧ (wrF nm p W D).2.1.left ≤ D.left := by
  have h1 := apd_ok nm p D
  have h2 : ∀ D : Dk, (syncF nm D).1.fl.length = D.fl.length ∧ (syncF nm D).1.left ≤ D.left := fun D => by
    have h3 := powF_le D
    have h4 := powF_fl D
    unfold syncF
    split
    · exact ⟨rfl, Nat.le_refl _⟩
    split
    · rw [h4]; exact ⟨rfl, h3.1⟩
    · exact ⟨by simp, h3.1⟩
  have h5 := h2 (apdF nm p D).1
  unfold wrF
  split
  · exact ⟨h1.1, h1.2.2.1⟩
  split
  · simp only; omega
  · exact ⟨h1.1, h1.2.2.1⟩
set_option maxHeartbeats 8000000 in
theorem an_tail {E : Env} {b0 g k : Nat} {fv' : Value} {rs' : List Row} {D2 : Dk} {W0 : Wl} {o : Wl × Dk × Nat} (hg : g < 99) (hk : k < 99) (hn : D2.fl.length ≤ 95000) (hl : D2.left ≤ 9223372036854775807)
    (e0 : E.get 0 = lpD wb) (e7 : E.get 7 = .pointer (some ⟨b0, 0, none⟩)) (h0 : E.has 0 = true) (h7 : E.has 7 = true)
    (H : Hq m M (wlA wb rb fv rs W0 D).wp [cellA b0 (.cells (pc (((g + 1 : Nat) : Int), 1)).toArray 95 (0, 0)), wcA wb rb ⟨g, k, false⟩, dkA rb fv' rs' D2])
    (ho : o = if (anR g k 1 D2).2 ≠ 0 then (⟨g, k, true⟩, anR g k 1 D2) else (⟨g + 1, 1, false⟩, (anR g k 1 D2).1, 0)) :
    wpN Tryz.prog anTail (retP [RV.slot 4] fun v M => ∃ A', WlR wb rb o.1 o.2.1 (.int .i64 (o.2.2 : Nat)) v A' ∧ A'.p M ∧ Fr m M (wlA wb rb fv rs W0 D).wp ∧ (∀ b ∈ A'.fp, b ∈ (wlA wb rb fv rs W0 D).fp ∨ m b = none) ∧ ∀ b ∈ A'.wp, b ∈ (wlA wb rb fv rs W0 D).wp ∨ m b = none) E M := by
  simp (disch := omega) only [go_sem, undef, e0, e7, h0, h7]
  refine loopQ_intro (fun n E m' => ∃ j D' fv' rs', 1 ≤ j ∧ j ≤ k + 1 ∧ n = k + 1 - j ∧ D'.fl.length ≤ 95000 ∧ D'.left ≤ 9223372036854775807 ∧ E = [(0, lpD wb), (7, .pointer (some ⟨b0, 0, none⟩)), (9, .int .i64 (j : Nat))] ∧ anR g k 1 D2 = anR g (k + 1 - j) j D' ∧ Hq m m' (wlA wb rb fv rs W0 D).wp [cellA b0 (.cells (pc (((g + 1 : Nat) : Int), 1)).toArray 95 (0, 0)), wcA wb rb ⟨g, k, false⟩, dkA rb fv' rs' D']) k rfl ⟨1, D2, fv', rs', by omega, by omega, by omega, hn, hl, rfl, by rw [Nat.add_sub_cancel], H⟩ ?_
  clear H
  rintro n E M1 ⟨j, D', fv1, rs1, hj1, hj2, rfl, hn', hl', rfl, hgr, H⟩
  have hw := H.cs.2.1
  simp (disch := omega) only [go_sem, undef, hw, wlC]
  refine condB_dec (fun hlt => ?_) (fun hlt => ?_)
  · have hlt : j ≤ k := by omega
    rw [show k + 1 - j = (k - j) + 1 from by omega, anR] at hgr
    have hrl := rm_le (nmB g j) D'
    have hrm := fun M (h : (dkA rb fv1 rs1 D').p M) => remove_s h (nmB g j) (by omega) hl'
    generalize rmF (nmB g j) D' = rr at *
    obtain ⟨D3, e3⟩ := rr
    have hrl1 : D3.fl.length ≤ D'.fl.length := hrl.1
    have hrl2 : D3.left ≤ D'.left := hrl.2
    simp (disch := omega) only [go_sem, undef, hw, wlC]
    refine callQ H (name_s g j (by omega) (by omega)) fun M f H => ?_
    have hw := H.cs.2.1
    simp (disch := omega) only [go_sem, undef, hw, wlC]
    refine callA2 H (hrm _ (H.at 2 rfl)) fun u M A' hR f H => ?_
    obtain ⟨eu, fv2, rs2, eA⟩ := hR
    subst eu eA
    have hw := H.cs.2.1
    by_cases he : e3 = 0
    · subst he
      rw [if_neg (by simp)] at hgr
      simp (disch := omega) only [go_sem, undef, dec_f (show ¬ ((0 : Nat) : Int) ≠ 0 by simp)]
      exact handN_intro (k + 1 - (j + 1)) (by omega) ⟨j + 1, D3, fv2, rs2, by omega, by omega, rfl, by omega, by omega, rfl, by rw [hgr, show k + 1 - (j + 1) = k - j from by omega], H⟩
    · rw [if_pos he] at hgr
      rw [hgr, if_pos he] at ho
      simp (disch := omega) only [go_sem, undef, hw, wlC, dec_t (show ((e3 : Nat) : Int) ≠ 0 by omega)]
      refine wrQ1 H fun M f H => ?_
      simp (disch := omega) only [go_sem, undef]
      exact wl_done2 ho (Hq.join (A := wcA wb rb ⟨g, k, true⟩) H.tail)
  · have e : j = k + 1 := by omega
    subst e
    rw [Nat.sub_self] at hgr
    rw [hgr] at ho
    simp only [anR, ne_eq, not_true_eq_false, if_false] at ho
    have hc := H.cs.1
    simp (disch := omega) only [go_sem, undef, hw, wlC, hc]
    have H := H.perm (List.Perm.swap ..)
    refine stQ0 H (show 1 + 2 ≤ 4 by decide) rfl fun M f H => ?_
    simp (disch := omega) only [go_sem, undef]
    exact wl_done2 ho (Hq.join (A := wcA wb rb ⟨g + 1, 1, false⟩) (H.drop 1))
end Go.Fw
namespace Go.Fw
open Go.Proofs
variable {m m0 M : Mem} {S : List Nat} {L : List As}
variable {rb wb : Nat} {fv : Value} {rs : List Row} {D : Dk}
theorem wr_down (nm p : Bs) (W : Wl) (D : Dk) (h : (wrF nm p W D).2.2 = 0) : (wrF nm p W D).1.down = false := by
  unfold wrF at *
  split
  · rename_i h1; rw [if_pos h1] at h; cases h
  split
  · rename_i h1 h2
    rw [if_neg h1, if_pos h2] at h
    have h : (syncF nm (apdF nm p D).1).2 = 0 := h
    simp only [h]; rfl
  · rename_i h1 h2
    rw [if_neg h1, if_neg h2] at h
    exact absurd h h2
set_option maxHeartbeats 8000000 in
theorem anew_s {W : Wl} (h : (wlA wb rb fv rs W D).p m) (hg : W.g < 99) (hk : W.k < 99) {lv : Value} {vs : List Value} {l : List Bs} (hv : RdS 1 v1 m lv vs) (hF : F2 (fun v l => RdB m v l) vs l) (hok : ∀ p ∈ l, okR p) (hvl : vs.length ≤ 1000000) (hlt : l.flatten.length ≤ 100000000)
    (hn : D.fl.length ≤ 90000) (hl : D.left ≤ 9223372036854775807) (hT : tot D.fl ≤ 100000000) (hq : D.quota ≤ 500000000) :
    CM Tryz.prog n_wal_Wal_Anew [lpD wb, lv] m (wlA wb rb fv rs W D) (WlR wb rb (anewF l W D).1 (anewF l W D).2.1 (.int .i64 ((anewF l W D).2.2 : Nat))) := by
  have hll := F2_len hF
  have hfl : (frs l).length ≤ 106000000 := by rw [frs_len]; omega
  have hnb := numB_len (l.length : Nat)
  have hhd : (hdR l).length ≤ 107000000 := by
    have : (frO (numB (l.length : Nat))).length ≤ 100 := by
      unfold frO; split
      · rw [frB_len]; omega
      · simp
    rw [hdR, List.length_append]; omega
  have hfo : (frO (numB (l.length : Nat))).length ≤ 1000000 := by
    unfold frO; split
    · rw [frB_len]; omega
    · simp
  have hwr := fun M fv rs (h : (wlA wb rb fv rs W D).p M) (pv : Value) (hpv : RdB M pv (hdR l)) (hpn) => write_s h (W.g + 1) 1 (by omega) (by omega) (hdR l) hpv hpn (by omega) (by omega) hl (by omega) hq
  have hwg := wr_gk (nmB (W.g + 1) 1) (hdR l) W D
  have hwle := wr_le (nmB (W.g + 1) 1) (hdR l) W D
  have hwd := wr_down (nmB (W.g + 1) 1) (hdR l) W D
  obtain ⟨o, ho⟩ : ∃ o, o = anewF l W D := ⟨_, rfl⟩
  rw [← ho]
  unfold anewF at ho
  generalize wrF (nmB (W.g + 1) 1) (hdR l) W D = wr at *
  obtain ⟨W2, D2, e2⟩ := wr
  obtain ⟨g, k, down⟩ := W
  obtain ⟨g2, k2, down2⟩ := W2
  simp only at ho hwg hg hk hwle hwd
  obtain ⟨rfl, rfl⟩ := hwg
  obtain ⟨a, c, rfl⟩ := hv.form
  have H := (Hq.one h).split
  have hw := H.cs.1
  cases down with
  | true =>
    rw [if_pos rfl] at ho
    refine wal_Wal_Anew_go (by simp [Tryz.f33]) ?_
    simp (disch := omega) only [go_sem, undef, hw, wlC]
    exact wl_done2 ho H.join
  | false =>
    rw [if_neg (by simp)] at ho
    refine wal_Wal_Anew_go (by simp [Tryz.f33]) ?_
    rw [anew_code]
    generalize hC : anTail = C
    simp (disch := omega) only [go_sem, undef, hw, wlC]
    refine callN H (pack_Num_w (l := []) bytes_nil (by simp) (vs.length : Nat) (by omega)) fun u M A' eA f H => ?_
    subst eA
    rw [List.nil_append, hll] at H
    have hu := byA_rd (H.at 0 rfl)
    simp (disch := omega) only [go_sem, undef]
    refine callN H (frame_Put_s (l := []) bytes_nil hu (by simp) (by omega)) fun u2 M A' eA f2 H => ?_
    subst eA
    rw [List.nil_append] at H
    simp (disch := omega) only [go_sem, undef]
    refine callA0 H (frames_m (H.at 0 rfl) (hv.frame (f.trans0 f2)) (F2_imp hF fun v hv l hl => (hl.frame f).frame f2) hok hvl hfo hlt) fun u3 M A' hR f3 H => ?_
    refine Exists.elim hR fun w hw2 => ?_
    have eu := hw2.1
    have eA := hw2.2
    subst eu eA
    have H := H.drop 1
    rw [show frO (numB (l.length : Nat)) ++ frs l = hdR l from rfl] at H
    have H := H.rot3'.rot3'
    have hw := H.cs.1
    simp (disch := omega) only [go_sem, undef, hw, wlC, dec_f (show ¬ ((g2 : Nat) : Int) ≥ 999999999 by omega)]
    refine newQ H fun b0 M f0 H => ?_
    simp (disch := omega) only [go_sem, undef]
    refine stwQ0 H rfl rfl fun M f1 H => ?_
    have hc := H.cs.1
    simp (disch := omega) only [go_sem, undef, hc]
    have H := Hq.join (A := wcA wb rb ⟨g2, k2, false⟩) H.rot3'.rot3'
    have hrd := H.at 2 rfl
    have hap := (List.pairwise_cons.1 H.dj).1 (rdA w (hdR l)) (by simp)
    have hc := H.cs.1
    refine callA0 H (hwr _ _ _ (H.at 0 rfl) w hrd.1 fun b hb => ⟨fun h => hap.1 b h hb, hrd.2 b hb⟩) fun u M A' hR f H => ?_
    obtain ⟨eu, fv2, rs2, eA⟩ := hR
    subst eu eA
    have H := H.drop 2
    by_cases he : e2 = 0
    · subst he
      rw [if_neg (by simp)] at ho
      have hdn : down2 = false := hwd rfl
      subst hdn
      have hle1 : D2.fl.length ≤ D.fl.length + 1 := hwle.1
      have hle2 : D2.left ≤ D.left := hwle.2
      simp (disch := omega) only [go_sem, undef, dec_f (show ¬ ((0 : Nat) : Int) ≠ 0 by simp)]
      subst hC
      have H := H.split.rot3'
      exact an_tail (D2 := D2) hg hk (by omega) (by omega) rfl rfl rfl rfl H ho
    · rw [if_pos he] at ho
      simp (disch := omega) only [go_sem, undef, dec_t (show ((e2 : Nat) : Int) ≠ 0 by omega)]
      exact wl_done2 ho (H.drop 1)
end Go.Fw
