import Derived.Test.YtbbiiodadoeflaaGreatDoorRa
import Derived.Test.YtbbiiodadoeflaaGreatDoorWd
import Derived.Test.YtbbiiodadoeflaaGreatDoorWg
set_option linter.unusedVariables false
set_option linter.unusedSimpArgs false
namespace Go.Fw
open Go.Proofs
variable {m m0 M : Mem} {S : List Nat} {L : List As}
variable {rb : Nat} {fv : Value} {rs : List Row} {D : Dk}
abbrev rcutT : NC := .seq ref8_Disk_Cut_r10 (.seq ref8_Disk_Cut_r11 (.seq ref8_Disk_Cut_r12 .ret))
theorem rcut_code : ref8_Disk_Cut_c = .seq ref8_Disk_Cut_r0 (.seq ref8_Disk_Cut_r1 (.seq (.block 0 (.seq ref8_Disk_Cut_r2 (.cond (.slot 11) (.seq ref8_Disk_Cut_r3 .ret) (.seq ref8_Disk_Cut_r4 (.cond (.slot 16) (.seq ref8_Disk_Cut_r5 .ret) (.seq ref8_Disk_Cut_r6 (.cond (.slot 19) (.seq ref8_Disk_Cut_r7 .ret) (.seq ref8_Disk_Cut_r8 (.cond (.slot 35) (.seq ref8_Disk_Cut_r9 .ret) .skip))))))))) rcutT)) := rfl
set_option maxHeartbeats 8000000 in
theorem rcut_s (h : (rkA rb fv rs D).p m) (nm : Bs) (n : Nat) (hs : Srt D.fl) (hnn : n ≤ 1000000000) (hn : D.fl.length ≤ 1000000) (hl : D.left ≤ 9223372036854775807) (hT : tot D.fl ≤ 500000000) (hkp : ∀ f ∈ D.fl, f.kept ≤ 1000000000) : CM Tryz.prog n_ref8_Disk_Cut [lpD rb, .string (zb nm), .int .i64 (n : Nat)] m (rkA rb fv rs D) (RkR rb (cutF nm n D).1 (.int .i64 ((cutF nm n D).2 : Nat))) := by
  have H := Hq.one h
  have hat := rat_s h nm hs hn
  have hps := fun M (h : (rkA rb fv rs D).p M) => rpower_s h hl
  have hpf := powF_fl D
  have hp10 := (powF_le D).2.2
  have hfo := findF_ok nm D.fl 0
  cases ho : D.off with
  | true =>
    have e : cutF nm n D = (D, 10) := by simp [cutF, knownF, ho]
    rw [e]
    refine ref8_Disk_Cut_go (by simp [Tryz.f33]) ?_
    rw [rcut_code]
    generalize hC : rcutT = C
    simp (disch := omega) only [go_sem, undef]
    refine callQ H hat fun M f H => ?_
    have hb := rk_cell (H.at 0 rfl)
    simp (disch := omega) only [go_sem, undef, hb, rkC, ho]
    exact rm_done H
  | false =>
    cases hf : (findF nm D.fl 0).2 with
    | false =>
      have e : cutF nm n D = (D, 8) := by simp [cutF, knownF, ho, hf]
      rw [e]
      refine ref8_Disk_Cut_go (by simp [Tryz.f33]) ?_
      rw [rcut_code]
      generalize hC : rcutT = C
      simp (disch := omega) only [go_sem, undef]
      refine callQ H hat fun M f H => ?_
      have hb := rk_cell (H.at 0 rfl)
      simp (disch := omega) only [go_sem, undef, hb, rkC, ho, hf]
      exact rm_done H
    | true =>
      have es : cutF nm n D = if lenAt D.fl (findF nm D.fl 0).1 < n then (D, 1) else if (powF D).2 ≠ 0 then powF D else ({ (powF D).1 with fl := D.fl.modify (findF nm D.fl 0).1 (cutT n) }, 0) := by simp [cutF, knownF, ho, hf]
      rw [es]
      obtain ⟨_, y, hy, hyn⟩ := hfo hf
      rw [Nat.sub_zero] at hy
      generalize (findF nm D.fl 0).1 = i at *
      generalize powF D = pd at *
      obtain ⟨D1, e1⟩ := pd
      simp only at hpf hp10 hps
      have hi := (List.getElem?_eq_some_iff.1 hy).1
      have hla : lenAt D.fl i = y.b.length := by unfold lenAt; rw [hy]; rfl
      have hyl : y.b.length ≤ 500000000 := by
        have h1 := tot_take D.fl i y hy
        have h2 := tot_le D.fl (i + 1)
        omega
      have hyk := hkp y (List.mem_of_getElem? hy)
      rw [hla]
      refine ref8_Disk_Cut_go (by simp [Tryz.f33]) ?_
      rw [rcut_code]
      generalize hC : rcutT = C
      simp (disch := omega) only [go_sem, undef]
      refine callQ H hat fun M f H => ?_
      have hb := rk_cell (H.at 0 rfl)
      have hp := H.at 0 rfl
      have hlen := rk_len hp
      refine F2_at (i := i) (rk_row hp) (by omega) fun r y' hr1 hy' hR => ?_
      rw [hy] at hy'
      cases hy'
      refine Own.rowK ((H.ropen).at 1 rfl) (by omega) fun b cap tail efv hbb hll => ?_
      subst efv
      have hE := RdS.elO (rk_rds hp) rfl hr1 (by decide)
      have hc := hE.cell 1 _ rfl
      refine Exists.elim hR.2.2.1.form fun a3 hh => Exists.elim hh fun c3 ev => ?_
      rw [ev] at hc
      have hil : i < rs.length := by omega
      by_cases hlong : y.b.length < n
      · rw [if_pos hlong]
        simp (disch := omega) only [go_sem, undef, hb, rkC, ho, hf, dec_f (show ¬ ((i : Nat) : Int) < 0 by omega), dec_f (show ¬ ((n : Nat) : Int) < 0 by omega), rd_ixs, hc, dec_t (show ((n : Nat) : Int) > (y.b.length : Nat) by omega)]
        exact rm_done H
      rw [if_neg hlong]
      simp (disch := omega) only [go_sem, undef, hb, rkC, ho, hf, dec_f (show ¬ ((i : Nat) : Int) < 0 by omega), dec_f (show ¬ ((n : Nat) : Int) < 0 by omega), rd_ixs, hc, dec_f (show ¬ ((n : Nat) : Int) > (y.b.length : Nat) by omega)]
      refine callS0 (rkA rb _ rs D1) H (hps _ (H.at 0 rfl)) (by simp [rkA, starA, bsA]) (by simp [rkA, starA, bsA]) fun M f H => ?_
      by_cases he1 : e1 = 0
      · subst he1
        rw [if_neg (by simp)]
        have hp := H.at 0 rfl
        clear hb hc
        have hb := rk_cell hp
        refine F2_at (i := i) (rk_row hp) (by omega) fun r' y' hr1' hy' hR => ?_
        rw [hr1] at hr1'
        cases hr1'
        rw [hpf, hy] at hy'
        cases hy'
        have hE := RdS.elO (rk_rds hp) rfl hr1 (by decide)
        have hc := hE.cell 1 _ rfl
        rw [ev] at hc
        have hRb := hR.2.2.1
        rw [ev] at hRb
        refine Exists.elim (RdS.cut (by decide) hRb 0 n (by omega) (by omega)) fun a' hh => Exists.elim hh fun c' hcr => ?_
        have hcc := hcr.1
        have hcb := hcr.2.1
        clear hh hcr
        rw [List.drop_zero, Nat.sub_zero] at hcb
        rw [Nat.sub_zero] at hcc
        have hcc : cutS 1 a3 c3 0 (n : Nat) = some (.slice a' n c') := hcc
        have hnl : (y.b.take n).length = n := by rw [List.length_take]; omega
        have hcl : RdB M (.slice a' n c') (y.b.take n) := hcb
        simp (disch := omega) only [go_sem, undef]
        subst hC
        simp (disch := omega) only [go_sem, undef, hb, rkC, rd_ixs, hc, rd_slc01, hcc]
        refine newQ H fun b4 M f4 H => ?_
        have hb := H.cs.2.1
        have hc := (RdS.elO (rk_rds (H.at 1 rfl)) rfl hr1 (by decide)).cell 1 _ rfl
        rw [ev] at hc
        simp (disch := omega) only [go_sem, undef, hb, rkC, rd_ixs, hc, rd_slc01, hcc]
        have H := H.toRow (l := []) 1 0 0 rfl (by omega)
        simp only [Nat.zero_mul, List.take_zero] at H
        refine appQ0 (bytes := 1) (zero := [.int .u8 0]) H (k := n) rfl (by have := ldS_of (l := y.b.take n) (c := c') (by rw [hnl]; exact hcl.frame f4); rwa [hnl] at this) (by rw [bys_len, hnl]; omega) (bys_one _) rfl (by omega) (by omega) fun w M f5 H => ?_
        have H : Hq m M (rkA rb (.slice (some ⟨b, 0, none⟩) rs.length cap) rs D).wp [byA T_uint8 w (y.b.take n), rkA rb (.slice (some ⟨b, 0, none⟩) rs.length cap) rs D1] := by simpa [bys, ownA, byA, hnl] using H
        refine Own.formK (H.at 0 rfl) fun a4 c4 e4 => ?_
        subst e4
        have hb := H.cs.1
        simp (disch := omega) only [go_sem, undef, hb, rkC, rd_ixs]
        have H := Hq.ropen (H.perm (List.Perm.swap ..))
        refine rputFile (r' := (r.1, .slice a4 (y.b.take n).length c4, r.2.2)) H.rot3 hr1 (by decide) rfl fun M f H => ?_
        have hset : (rs.set i (r.1, .slice a4 (y.b.take n).length c4, r.2.2))[i]? = some (r.1, .slice a4 (y.b.take n).length c4, r.2.2) := by rw [List.getElem?_set_self (by omega)]
        have hE := RdS.elO (Own.rds (k := 3) (enc := rowE) (by decide) rowE_len (H.at 0 rfl)) (by rw [List.length_set]) hset (by decide)
        have hc := hE.cell 2 _ rfl
        have hb := H.cs.1
        have hkk : r.2.2 = y.kept := hR.2.1
        rw [hkk] at hc H hset
        have hmn : min ((y.kept : Nat) : Int) ((n : Nat) : Int) = ((min y.kept n : Nat) : Int) := by omega
        simp (disch := omega) only [go_sem, undef, hb, rkC, rd_ixs, hc, hmn]
        refine rputFile (r' := (r.1, .slice a4 (y.b.take n).length c4, min y.kept n)) H hset (by decide) rfl fun M f H => ?_
        rw [List.set_set] at H
        have H := bs_put (i := i) (r := r) (r' := (r.1, .slice a4 (y.b.take n).length c4, min y.kept n)) (f' := cutT n y) H.rev4 rfl rfl hR.1 rfl
        have e2 : D1.fl.set i (cutT n y) = D.fl.modify i (cutT n) := by
          rw [hpf, modify_set hy]
        rw [e2] at H
        have H := Hq.rclose (D := { D1 with fl := D.fl.modify i (cutT n) }) H.rot3'.rot3'
        simp (disch := omega) only [go_sem, undef]
        exact rm_done H
      · rw [if_pos he1]
        have : e1 = 10 := by omega
        subst this
        simp (disch := omega) only [go_sem, undef]
        exact rm_done H
end Go.Fw
namespace Go.Fw
open Go.Proofs
variable {m m0 M : Mem} {S : List Nat} {L : List As}
variable {rb : Nat} {fv : Value} {rs : List Row} {D : Dk}
theorem rnew_s (q : Nat) (hq : q ≤ 1048576) : CN Tryz.prog n_ref8_NewDisk [.int .i64 (q : Int)] m fun u A => ∃ rb, u = .tuple #[lpD rb, .int .i64 0] ∧ A = rkA rb (.slice none 0 0) [] ⟨q, [], false, false, 0⟩ := by
  refine ref8_NewDisk_go (by simp [Tryz.f33]) ?_
  have H := Hq.refl m []
  simp (disch := omega) only [go_sem, undef, dec_f (show ¬ ((q : Nat) : Int) < 0 by omega), dec_f (show ¬ ((q : Nat) : Int) > 1048576 by omega)]
  have H0 : Hq m m [] [bsA [] []] := H.add (A := bsA [] []) F2.nil (Fr.refl _ _) (by simp [bsA])
  have H1 := H0.nilRow T_ref8_File 3
  refine newQ H1 fun b M f H => ?_
  have H := Hq.rkd (D := ⟨q, [], false, false, 0⟩) (fv := .slice none 0 0) (rs := []) ⟨q, [], false, false, 0⟩ H rfl rfl
  simp (disch := omega) only [go_sem, undef]
  refine ⟨_, ⟨b, rfl, rfl⟩, H.hs.1, H.fr, fun x hx => ?_⟩
  have : x ∈ (rkA b (.slice none 0 0) [] ⟨q, [], false, false, 0⟩).wp := by simpa [rkA, starA, bsA] using hx
  exact (H.done.2.2 x this).resolve_left (by simp)
set_option maxHeartbeats 4000000 in
theorem rname_s (nm : Bs) (h0 : 0 < nm.length) (h1 : nm.length ≤ 24) (hc : ∀ x ∈ nm, 33 ≤ x.toNat ∧ x.toNat ≤ 126) : MC Tryz.prog n_ref8_Name [.string (zb nm)] m fun u M => u = .bool true ∧ Fr m M [] := by
  refine ref8_Name_go (by simp [Tryz.f33]) ?_
  have hs : (((zb nm).size : Nat) : Int) = (nm.length : Nat) := by rw [zb_size]
  have hne : ¬ zb nm = (⟨#[]⟩ : ByteArray) := by
    intro e
    have : zb nm = zb [] := e
    rw [zb_inj.1 this] at h0; simp at h0
  simp (disch := omega) only [go_sem, undef]
  refine loopQ_intro (fun k E m' => ∃ j, j ≤ nm.length ∧ k = nm.length - j ∧ E = [(0, .string (zb nm)), (3, .int .i64 (j : Nat))] ∧ m' = m) nm.length rfl ⟨0, by omega, by omega, rfl, rfl⟩ ?_
  rintro k E M1 ⟨j, hj, rfl, rfl, rfl⟩
  simp (disch := omega) only [go_sem, undef, hs]
  refine condB_dec (fun hlt => ?_) (fun hlt => ?_)
  · have hlt : j < nm.length := by omega
    have hx := hc nm[j] (List.getElem_mem hlt)
    have hix : rd .idxs [.string (zb nm), .int .i64 (j : Nat)] M1 = some (.int .u8 (nm[j].toNat : Nat)) := by
      rw [rd_idxs _ _ _ (by omega), Int.toNat_natCast, zb_get, List.getElem?_eq_getElem hlt]; rfl
    simp (disch := omega) only [go_sem, undef, hix, dec_f (show ¬ ((nm[j].toNat : Nat) : Int) < 33 by omega), dec_f (show ¬ ((nm[j].toNat : Nat) : Int) > 126 by omega)]
    exact handN_intro (nm.length - (j + 1)) (by omega) ⟨j + 1, by omega, rfl, rfl, rfl⟩
  · simp (disch := omega) only [go_sem, undef, rd_str_neq, dec_f hne, Bool.not_false, hs, dec_t (show ((nm.length : Nat) : Int) ≤ 24 by omega)]
    exact ⟨rfl, Fr.refl _ _⟩
end Go.Fw
namespace Go.Fw
open Go.Proofs
variable {m m0 M : Mem} {S : List Nat} {L : List As}
variable {rb : Nat} {fv : Value} {rs : List Row} {D : Dk}
def plcF (nm : Bs) (D : Dk) : Dk := if (findF nm D.fl 0).2 then D else { D with fl := insF D.fl (findF nm D.fl 0).1 ⟨nm, [], 0⟩ }
theorem rd_str_lss (a b : Bs) : rd (.str .lss) [.string (zb a), .string (zb b)] m = some (.bool (Op.bytesLess a b)) := rfl
theorem place_code : ref8_Disk_place_c = .seq ref8_Disk_place_r0 (.seq ref8_Disk_place_r1 (.seq (.block 0 (.loop [0, 1, 5] ref8_Disk_place_l0)) (.seq (.seq ref8_Disk_place_r4 (.cond (.slot 45) ref8_Disk_place_r5 .skip)) (.seq ref8_Disk_place_r6 .ret)))) := rfl
set_option maxHeartbeats 16000000 in
theorem place_r5 (h : (rkA rb fv rs D).p m) (nm : Bs) (hn : D.fl.length ≤ 100000) (j : Nat) (hj : j ≤ rs.length) (x45 : Value) {Z : Env → Mem → Prop} {Q : Exit → Env → Mem → Prop}
    (K : ∀ M fv', Hq m M (rkA rb fv rs D).wp [rkA rb fv' (insF rs j (nm, .slice none 0 0, 0)) { D with fl := insF D.fl j ⟨nm, [], 0⟩ }] → Z [(5, .int .i64 (j : Nat))] M) :
    wpN Tryz.prog ref8_Disk_place_r5 (thenN Z Q) [(0, lpD rb), (1, .string (zb nm)), (5, .int .i64 (j : Nat)), (45, x45)] m := by
  have H := (Hq.one h).ropen
  have hlen := rk_len h
  have hr := rk_rds h
  have hone := rows_one (rk_row h)
  obtain ⟨a, c, rfl⟩ := hr.form
  have hb := rk_cell h
  have nc0 : ((0 : Nat) : Int) = 0 := rfl
  obtain ⟨a1, c1, hc1, hr1, _⟩ := hr.cut (by decide) 0 j (by omega) (by omega)
  obtain ⟨a2, c2, hc2, hr2, _⟩ := hr.cut (by decide) j rs.length (by omega) (Nat.le_refl _)
  rw [Nat.sub_zero] at hc1 hr1
  rw [nc0] at hc1
  rw [List.drop_zero] at hr1
  rw [List.take_length] at hr2
  have t1 : (rs.take j).length = j := by rw [List.length_take]; omega
  have t2 : (rs.drop j).length = rs.length - j := List.length_drop ..
  have hone1 : ∀ v ∈ (rs.take j).flatMap rowE, v.oneCell' = true := fun v hv => hone v (by
    obtain ⟨r, h1, h2⟩ := List.mem_flatMap.1 hv
    exact List.mem_flatMap.2 ⟨r, List.mem_of_mem_take h1, h2⟩)
  have hone2 : ∀ v ∈ (rs.drop j).flatMap rowE, v.oneCell' = true := fun v hv => hone v (by
    obtain ⟨r, h1, h2⟩ := List.mem_flatMap.1 hv
    exact List.mem_flatMap.2 ⟨r, List.mem_of_mem_drop h1, h2⟩)
  have hap := ldS_of (l := rs.take j) (c := c1) (by rw [t1]; exact hr1)
  simp (disch := omega) only [go_sem, undef, hb, rkC, rd_slc01, rd_slc10, hc1, hc2]
  refine both_intro ?_ ?_
  rotate_left
  · simp (disch := omega) only [go_sem, undef]
    refine newQ H fun b2 M f H => ?_
    have hb := H.cs.2.1
    simp (disch := omega) only [go_sem, undef, hb, rkC, rd_slc01, rd_slc10, hc1, hc2]
    refine newQ H fun b1 M1 f1 H => ?_
    have hb := H.cs.2.2.1
    simp (disch := omega) only [go_sem, undef, hb, rkC, rd_slc01, rd_slc10, hc1, hc2]
    have H := H.toRow (l := []) 3 0 0 rfl (by omega)
    simp only [Nat.zero_mul, List.take_zero] at H
    refine appQ0 H (k := j) rfl (by have := ldS_of (l := rs.take j) (c := c1) (by rw [t1]; exact (hr1.frame f).frame f1); rwa [t1] at this) (by rw [fm_len rowE_len, t1]) hone1 rfl (by omega) (by omega) fun w M2 f2 H => ?_
    have H := H.perm (List.Perm.swap ..)
    have hb := H.cs.2.1
    simp (disch := omega) only [go_sem, undef, hb, rkC, rd_slc01, rd_slc10, hc1, hc2]
    refine appQ1 H (k := 1) rfl (ldS_cell (n := 3) (l := rowE (nm, .slice none 0 0, 0)) H.cs.1 (by simp [rowE])) rfl (by simp [rowE, Value.oneCell']) rfl (by omega) (by omega) fun w3 M5 f5 H => ?_
    have hb := H.cs.2.1
    simp (disch := omega) only [go_sem, undef, hb, rkC, rd_slc01, rd_slc10, hc1, hc2]
    have H := H.tail
    have hr2' : RdS 3 rowE M5 (.slice a2 (rs.length - j) c2) (rs.drop j) := by
      have := RdS.cutV (by decide) (Own.rds (k := 3) (enc := rowE) (by decide) rowE_len (H.at 2 rfl)) j rs.length (by omega) (Nat.le_refl _) hc2
      rwa [List.take_length] at this
    refine appQ0 H (k := rs.length - j) rfl (by have := ldS_of (l := rs.drop j) (c := c2) (by rw [t2]; exact hr2'); rwa [t2] at this) (by rw [fm_len rowE_len, t2]) hone2 rfl (by omega) (by omega) fun w2 M6 f6 H => ?_
    have htk : (rowE (nm, .slice none 0 0, 0)).take 3 = rowE (nm, .slice none 0 0, 0) := rfl
    rw [htk] at H
    have hee : ownA T_ref8_File 3 w2 (0 + j + 1 + (rs.length - j)) ([] ++ (rs.take j).flatMap rowE ++ rowE (nm, .slice none 0 0, 0) ++ (rs.drop j).flatMap rowE) = rrA w2 (insF rs j (nm, .slice none 0 0, 0)) := by
      rw [rrA, insF_len _ _ _ (by omega), insF, List.flatMap_append, List.flatMap_cons, show 0 + j + 1 + (rs.length - j) = rs.length + 1 from by omega]; simp
    have H : Hq m M6 (rkA rb (.slice a rs.length c) rs D).wp [rrA w2 (insF rs j (nm, .slice none 0 0, 0)), rcA rb (.slice a rs.length c) D, rrA (.slice a rs.length c) rs, bsA rs D.fl] := by
      rw [← hee]; exact H
    refine Own.formK (H.at 0 rfl) fun a5 c5 e5 => ?_
    subst e5
    have hb := H.cs.1
    simp (disch := omega) only [go_sem, undef, hb, rkC]
    refine wrQ0 H.rot3 fun M f3 H => ?_
    have H := H.rot3'.tail
    have H := bs_ins (i := j) (r := (nm, .slice none 0 0, 0)) (f := ⟨nm, [], 0⟩) H.rot3' rfl rfl rfl rfl
    have H := Hq.rkd (l := rkC (.slice a5 (insF rs j (nm, .slice none 0 0, 0)).length c5) D) (D := { D with fl := insF D.fl j ⟨nm, [], 0⟩ }) { D with fl := insF D.fl j ⟨nm, [], 0⟩ } H.rot3'.rot3' rfl rfl
    simp (disch := omega) only [go_sem, undef]
    exact K _ _ H
  simp (disch := omega) only [go_sem, undef]
  refine newQ H fun b1 M f H => ?_
  have hb := H.cs.2.1
  simp (disch := omega) only [go_sem, undef, hb, rkC, rd_slc01, rd_slc10, hc1, hc2]
  have H := H.toRow (l := []) 3 0 0 rfl (by omega)
  simp only [Nat.zero_mul, List.take_zero] at H
  refine both_intro ?_ ?_
  · simp (disch := omega) only [go_sem, undef]
    refine appQ0 H (k := j) rfl (by have := ldS_of (l := rs.take j) (c := c1) (by rw [t1]; exact hr1.frame f); rwa [t1] at this) (by rw [fm_len rowE_len, t1]) hone1 rfl (by omega) (by omega) fun w M2 f2 H => ?_
    have hb := H.cs.1
    simp (disch := omega) only [go_sem, undef, hb, rkC, rd_slc01, rd_slc10, hc1, hc2]
    refine newQ H fun b2 M3 f3 H => ?_
    have hb := H.cs.2.1
    simp (disch := omega) only [go_sem, undef, hb, rkC, rd_slc01, rd_slc10, hc1, hc2]
    refine appQ1 H (k := 1) rfl (ldS_cell (n := 3) (l := rowE (nm, .slice none 0 0, 0)) H.cs.1 (by simp [rowE])) rfl (by simp [rowE, Value.oneCell']) rfl (by omega) (by omega) fun w3 M5 f5 H => ?_
    have hb := H.cs.2.1
    simp (disch := omega) only [go_sem, undef, hb, rkC, rd_slc01, rd_slc10, hc1, hc2]
    have H := H.tail
    have hr2' : RdS 3 rowE M5 (.slice a2 (rs.length - j) c2) (rs.drop j) := by
      have := RdS.cutV (by decide) (Own.rds (k := 3) (enc := rowE) (by decide) rowE_len (H.at 2 rfl)) j rs.length (by omega) (Nat.le_refl _) hc2
      rwa [List.take_length] at this
    refine appQ0 H (k := rs.length - j) rfl (by have := ldS_of (l := rs.drop j) (c := c2) (by rw [t2]; exact hr2'); rwa [t2] at this) (by rw [fm_len rowE_len, t2]) hone2 rfl (by omega) (by omega) fun w2 M6 f6 H => ?_
    have htk : (rowE (nm, .slice none 0 0, 0)).take 3 = rowE (nm, .slice none 0 0, 0) := rfl
    rw [htk] at H
    have hee : ownA T_ref8_File 3 w2 (0 + j + 1 + (rs.length - j)) ([] ++ (rs.take j).flatMap rowE ++ rowE (nm, .slice none 0 0, 0) ++ (rs.drop j).flatMap rowE) = rrA w2 (insF rs j (nm, .slice none 0 0, 0)) := by
      rw [rrA, insF_len _ _ _ (by omega), insF, List.flatMap_append, List.flatMap_cons, show 0 + j + 1 + (rs.length - j) = rs.length + 1 from by omega]; simp
    have H : Hq m M6 (rkA rb (.slice a rs.length c) rs D).wp [rrA w2 (insF rs j (nm, .slice none 0 0, 0)), rcA rb (.slice a rs.length c) D, rrA (.slice a rs.length c) rs, bsA rs D.fl] := by
      rw [← hee]; exact H
    refine Own.formK (H.at 0 rfl) fun a5 c5 e5 => ?_
    subst e5
    have hb := H.cs.1
    simp (disch := omega) only [go_sem, undef, hb, rkC]
    refine wrQ0 H.rot3 fun M f3 H => ?_
    have H := H.rot3'.tail
    have H := bs_ins (i := j) (r := (nm, .slice none 0 0, 0)) (f := ⟨nm, [], 0⟩) H.rot3' rfl rfl rfl rfl
    have H := Hq.rkd (l := rkC (.slice a5 (insF rs j (nm, .slice none 0 0, 0)).length c5) D) (D := { D with fl := insF D.fl j ⟨nm, [], 0⟩ }) { D with fl := insF D.fl j ⟨nm, [], 0⟩ } H.rot3'.rot3' rfl rfl
    simp (disch := omega) only [go_sem, undef]
    exact K _ _ H
  · simp (disch := omega) only [go_sem, undef]
    refine newQ H fun b2 M3 f3 H => ?_
    have hb := H.cs.2.1
    simp (disch := omega) only [go_sem, undef, hb, rkC, rd_slc01, rd_slc10, hc1, hc2]
    refine appQ1 H (k := j) rfl (by have := ldS_of (l := rs.take j) (c := c1) (by rw [t1]; exact (hr1.frame f).frame f3); rwa [t1] at this) (by rw [fm_len rowE_len, t1]) hone1 rfl (by omega) (by omega) fun w M2 f2 H => ?_
    have hb := H.cs.2.1
    simp (disch := omega) only [go_sem, undef, hb, rkC, rd_slc01, rd_slc10, hc1, hc2]
    refine appQ1 H (k := 1) rfl (ldS_cell (n := 3) (l := rowE (nm, .slice none 0 0, 0)) H.cs.1 (by simp [rowE])) rfl (by simp [rowE, Value.oneCell']) rfl (by omega) (by omega) fun w3 M5 f5 H => ?_
    have hb := H.cs.2.1
    simp (disch := omega) only [go_sem, undef, hb, rkC, rd_slc01, rd_slc10, hc1, hc2]
    have H := H.tail
    have hr2' : RdS 3 rowE M5 (.slice a2 (rs.length - j) c2) (rs.drop j) := by
      have := RdS.cutV (by decide) (Own.rds (k := 3) (enc := rowE) (by decide) rowE_len (H.at 2 rfl)) j rs.length (by omega) (Nat.le_refl _) hc2
      rwa [List.take_length] at this
    refine appQ0 H (k := rs.length - j) rfl (by have := ldS_of (l := rs.drop j) (c := c2) (by rw [t2]; exact hr2'); rwa [t2] at this) (by rw [fm_len rowE_len, t2]) hone2 rfl (by omega) (by omega) fun w2 M6 f6 H => ?_
    have htk : (rowE (nm, .slice none 0 0, 0)).take 3 = rowE (nm, .slice none 0 0, 0) := rfl
    rw [htk] at H
    have hee : ownA T_ref8_File 3 w2 (0 + j + 1 + (rs.length - j)) ([] ++ (rs.take j).flatMap rowE ++ rowE (nm, .slice none 0 0, 0) ++ (rs.drop j).flatMap rowE) = rrA w2 (insF rs j (nm, .slice none 0 0, 0)) := by
      rw [rrA, insF_len _ _ _ (by omega), insF, List.flatMap_append, List.flatMap_cons, show 0 + j + 1 + (rs.length - j) = rs.length + 1 from by omega]; simp
    have H : Hq m M6 (rkA rb (.slice a rs.length c) rs D).wp [rrA w2 (insF rs j (nm, .slice none 0 0, 0)), rcA rb (.slice a rs.length c) D, rrA (.slice a rs.length c) rs, bsA rs D.fl] := by
      rw [← hee]; exact H
    refine Own.formK (H.at 0 rfl) fun a5 c5 e5 => ?_
    subst e5
    have hb := H.cs.1
    simp (disch := omega) only [go_sem, undef, hb, rkC]
    refine wrQ0 H.rot3 fun M f3 H => ?_
    have H := H.rot3'.tail
    have H := bs_ins (i := j) (r := (nm, .slice none 0 0, 0)) (f := ⟨nm, [], 0⟩) H.rot3' rfl rfl rfl rfl
    have H := Hq.rkd (l := rkC (.slice a5 (insF rs j (nm, .slice none 0 0, 0)).length c5) D) (D := { D with fl := insF D.fl j ⟨nm, [], 0⟩ }) { D with fl := insF D.fl j ⟨nm, [], 0⟩ } H.rot3'.rot3' rfl rfl
    simp (disch := omega) only [go_sem, undef]
    exact K _ _ H
set_option maxHeartbeats 16000000 in
theorem rplace_s (h : (rkA rb fv rs D).p m) (nm : Bs) (hn : D.fl.length ≤ 100000) : CM Tryz.prog n_ref8_Disk_place [lpD rb, .string (zb nm)] m (rkA rb fv rs D) (RkR rb (plcF nm D) (.int .i64 ((findF nm D.fl 0).1 : Nat))) := by
  have hb := rk_cell h
  have hl := rk_len h
  have hr := rk_rds h
  have hF := rk_row h
  have hone := rows_one (rk_row h)
  obtain ⟨a, c, rfl⟩ := hr.form
  refine ref8_Disk_place_go (by simp [Tryz.f33]) ?_
  rw [place_code]
  generalize hC : ref8_Disk_place_r5 = C
  simp (disch := omega) only [go_sem, undef]
  refine loopQ_intro (fun k E m' => ∃ j, j ≤ rs.length ∧ k = rs.length - j ∧ E = [(0, lpD rb), (1, .string (zb nm)), (5, .int .i64 (j : Nat))] ∧ findF nm D.fl 0 = findF nm (D.fl.drop j) j ∧ m' = m) rs.length rfl ⟨0, by omega, by omega, rfl, by rw [List.drop_zero], rfl⟩ ?_
  rintro k E M1 ⟨j, hj, rfl, rfl, hfd, rfl⟩
  have H := Hq.one h
  by_cases hlt : j < rs.length
  · refine F2_at hF hlt fun r y hr1 hy hR => ?_
    refine RdS.elK hr hlt (by decide) fun bx o r' hr' hix hE => ?_
    rw [hr1] at hr'
    cases hr'
    have hc0 : cellAt (M1 bx) o = some (.string (zb y.name)) := by have := hE.cell 0 _ rfl; rw [hR.1] at this; exact this
    rw [findF_drop nm D.fl j y hy] at hfd
    cases hles : Op.bytesLess y.name nm with
    | true =>
      rw [hles, if_pos rfl] at hfd
      simp (disch := omega) only [go_sem, undef, hb, rkC, dec_t (show ((j : Nat) : Int) < (rs.length : Nat) by omega), hix, hc0, rd_str_lss, hles]
      exact handN_intro (rs.length - (j + 1)) (by omega) ⟨j + 1, by omega, rfl, rfl, hfd, rfl⟩
    | false =>
      rw [hles, if_neg (by simp)] at hfd
      by_cases e : y.name = nm
      · simp (disch := omega) only [go_sem, undef, hb, rkC, dec_t (show ((j : Nat) : Int) < (rs.length : Nat) by omega), hix, hc0, rd_str_lss, hles, dec_f (show ¬ ((j : Nat) : Int) = (rs.length : Nat) by omega), rd_str_neq, dec_t (show zb y.name = zb nm by rw [e]), Bool.not_true]
        have e1 : plcF nm D = D := by unfold plcF; rw [hfd, decide_eq_true e]; rfl
        rw [e1, hfd]
        exact rm_done H
      · have hne : ¬ zb y.name = zb nm := fun h => e (zb_inj.1 h)
        have e1 : plcF nm D = { D with fl := insF D.fl j ⟨nm, [], 0⟩ } := by unfold plcF; rw [hfd, decide_eq_false e]; rfl
        rw [e1, hfd]
        simp (disch := omega) only [go_sem, undef, hb, rkC, dec_t (show ((j : Nat) : Int) < (rs.length : Nat) by omega), hix, hc0, rd_str_lss, hles, dec_f (show ¬ ((j : Nat) : Int) = (rs.length : Nat) by omega), rd_str_neq, dec_f hne, Bool.not_false]
        subst hC
        refine place_r5 h nm hn j (by omega) _ fun M fv' H => ?_
        simp (disch := omega) only [go_sem, undef]
        exact rm_done H
  · have e : j = rs.length := by omega
    subst e
    simp (disch := omega) only [go_sem, undef, hb, rkC, dec_f (show ¬ ((rs.length : Nat) : Int) < (rs.length : Nat) by omega), dec_t (show ((rs.length : Nat) : Int) = (rs.length : Nat) by omega)]
    rw [List.drop_of_length_le (by omega)] at hfd
    have hfd : findF nm D.fl 0 = (rs.length, false) := hfd
    have e1 : plcF nm D = { D with fl := insF D.fl rs.length ⟨nm, [], 0⟩ } := by unfold plcF; rw [hfd]; rfl
    rw [e1, hfd]
    subst hC
    refine place_r5 h nm hn _ (by omega) _ fun M fv' H => ?_
    simp (disch := omega) only [go_sem, undef]
    exact rm_done H
end Go.Fw
namespace Go.Fw
open Go.Proofs
variable {m m0 M : Mem} {S : List Nat} {L : List As}
variable {rb : Nat} {fv : Value} {rs : List Row} {D : Dk}
abbrev rapdT : NC := .seq ref8_Disk_Append_r9 (.seq ref8_Disk_Append_r10 (.seq ref8_Disk_Append_r11 .ret))
theorem rapd_code : ref8_Disk_Append_c = .seq ref8_Disk_Append_r0 (.seq (.block 0 (.seq ref8_Disk_Append_r1 (.cond (.slot 8) (.seq ref8_Disk_Append_r2 .ret) (.seq ref8_Disk_Append_r3 (.cond (.slot 13) (.seq ref8_Disk_Append_r4 .ret) (.seq ref8_Disk_Append_r5 (.cond (.slot 17) (.seq ref8_Disk_Append_r6 .ret) (.seq ref8_Disk_Append_r7 (.cond (.slot 28) (.seq ref8_Disk_Append_r8 .ret) .skip))))))))) rapdT) := rfl
def apT (p : Bs) (f : Fl) : Fl := { f with b := f.b ++ p }
theorem plc_at (nm : Bs) (D : Dk) : ∃ y, (plcF nm D).fl[(findF nm D.fl 0).1]? = some y ∧ y.b = rdB (lookF nm D.fl) := by
  have hok := findF_ok nm D.fl 0
  have hle := findF_le nm D.fl 0
  unfold plcF lookF
  cases h : (findF nm D.fl 0).2 with
  | true =>
    obtain ⟨_, y, hy, _⟩ := hok h
    rw [Nat.sub_zero] at hy
    exact ⟨y, hy, by rw [if_pos rfl, hy]; rfl⟩
  | false =>
    refine ⟨⟨nm, [], 0⟩, ?_, rfl⟩
    show (insF D.fl (findF nm D.fl 0).1 _)[(findF nm D.fl 0).1]? = _
    have h2 : (D.fl.take (findF nm D.fl 0).1).length = (findF nm D.fl 0).1 := by rw [List.length_take]; omega
    rw [insF, List.getElem?_append_right (by omega), h2, Nat.sub_self]; rfl
theorem plc_len (nm : Bs) (D : Dk) : (plcF nm D).fl.length ≤ D.fl.length + 1 := by
  have hle := findF_le nm D.fl 0
  unfold plcF
  split
  · omega
  · show (insF _ _ _).length ≤ _
    rw [insF_len _ _ _ (by omega)]; omega
theorem plc_set (nm p : Bs) (D D1 : Dk) (h1 : D1.fl = D.fl) (y : Fl) (hy : (plcF nm D1).fl[(findF nm D.fl 0).1]? = some y) :
    { plcF nm D1 with fl := (plcF nm D1).fl.set (findF nm D.fl 0).1 (apT p y) } = { D1 with fl := if (findF nm D.fl 0).2 then D.fl.modify (findF nm D.fl 0).1 (fun f => { f with b := f.b ++ p }) else insF D.fl (findF nm D.fl 0).1 ⟨nm, p, 0⟩ } := by
  have hle := findF_le nm D.fl 0
  obtain ⟨q1, f1, o1, a1, l1⟩ := D1
  simp only at h1
  subst h1
  unfold plcF at *
  cases h : (findF nm D.fl 0).2 with
  | true =>
    rw [h, if_pos rfl] at hy
    have hy' : D.fl[(findF nm D.fl 0).1]? = some y := hy
    simp only [if_true]
    rw [modify_set hy']; rfl
  | false =>
    rw [h] at hy
    simp only [Bool.false_eq_true, if_false] at hy ⊢
    have h2 : (D.fl.take (findF nm D.fl 0).1).length = (findF nm D.fl 0).1 := by rw [List.length_take]; omega
    have hy2 : y = ⟨nm, [], 0⟩ := by
      have : (insF D.fl (findF nm D.fl 0).1 ⟨nm, [], 0⟩)[(findF nm D.fl 0).1]? = some ⟨nm, [], 0⟩ := by
        rw [insF, List.getElem?_append_right (by omega), h2, Nat.sub_self]; rfl
      rw [this] at hy; exact (Option.some.inj hy).symm
    subst hy2
    congr 1
    rw [insF, List.set_append_right _ _ (by omega), h2, Nat.sub_self]; rfl
theorem lookF_len (nm : Bs) (fl : List Fl) : (rdB (lookF nm fl)).length ≤ tot fl := by
  cases h : lookF nm fl with
  | none => simp [rdB]
  | some x => exact lookF_tot h
set_option maxHeartbeats 16000000 in
theorem rappend_s (h : (rkA rb fv rs D).p m) (nm p : Bs) {pv : Value} (hpv : RdB m pv p) (hpn : ∀ b ∈ blkOf pv, b ∉ (rkA rb fv rs D).wp ∧ m b ≠ none) (hpl : p.length ≤ 500000000)
    (hnm : 0 < nm.length ∧ nm.length ≤ 24 ∧ ∀ x ∈ nm, 33 ≤ x.toNat ∧ x.toNat ≤ 126)
    (hn : D.fl.length ≤ 90000) (hl : D.left ≤ 9223372036854775807) (hT : tot D.fl ≤ 500000000) (hq : D.quota ≤ 500000000) :
    CM Tryz.prog n_ref8_Disk_Append [lpD rb, .string (zb nm), pv] m (rkA rb fv rs D) (RkR rb (apdF nm p D).1 (.int .i64 ((apdF nm p D).2 : Nat))) := by
  have H := Hq.one h
  obtain ⟨a, c, rfl⟩ := hpv.form
  have hb := rk_cell h
  have hps := fun M (h : (rkA rb fv rs D).p M) => rpower_s h hl
  have hpf := powF_fl D
  have hp10 := (powF_le D).2.2
  have hpa := plc_at nm (powF D).1
  have hset := fun y => plc_set nm p D (powF D).1 hpf y
  have hpln := plc_len nm (powF D).1
  have hpc := fun M fv rs (h : (rkA rb fv rs (powF D).1).p M) => rplace_s h nm (by rw [hpf]; omega)
  rw [hpf] at hpa hpln
  have hll := lookF_len nm D.fl
  have htn := fun M (h : (rkA rb fv rs D).p M) => rtotal_s h (by omega) (by omega)
  obtain ⟨o, ho⟩ : ∃ o, o = apdF nm p D := ⟨_, rfl⟩
  rw [← ho]
  unfold apdF at ho
  generalize powF D = pd at *
  obtain ⟨D1, e1⟩ := pd
  simp only at hpf hp10 hps hpa hset hpc ho hpln
  rw [hpf] at hpc
  cases hoff : D.off with
  | true =>
    rw [hoff, if_pos rfl] at ho
    subst ho
    refine ref8_Disk_Append_go (by simp [Tryz.f33]) ?_
    rw [rapd_code]
    generalize hC : rapdT = C
    simp (disch := omega) only [go_sem, undef, hb, rkC, hoff]
    exact rm_done H
  | false =>
    rw [hoff, if_neg (by simp)] at ho
    by_cases hroom : (D.quota : Int) - (tot D.fl : Nat) < (p.length : Nat)
    · rw [if_pos hroom] at ho
      subst ho
      refine ref8_Disk_Append_go (by simp [Tryz.f33]) ?_
      rw [rapd_code]
      generalize hC : rapdT = C
      simp (disch := omega) only [go_sem, undef, hb, rkC, hoff]
      refine callQ H (rname_s nm hnm.1 hnm.2.1 hnm.2.2) fun M f H => ?_
      have hb := rk_cell (H.at 0 rfl)
      simp (disch := omega) only [go_sem, undef, hb, rkC, Bool.not_true]
      refine callQ H (htn _ (H.at 0 rfl)) fun M f2 H => ?_
      have hb := rk_cell (H.at 0 rfl)
      simp (disch := omega) only [go_sem, undef, hb, rkC, dec_t (show ((tot D.fl : Nat) : Int) + (p.length : Nat) > (D.quota : Nat) by omega)]
      exact rm_done H
    rw [if_neg hroom] at ho
    refine ref8_Disk_Append_go (by simp [Tryz.f33]) ?_
    rw [rapd_code]
    generalize hC : rapdT = C
    simp (disch := omega) only [go_sem, undef, hb, rkC, hoff]
    refine callQ H (rname_s nm hnm.1 hnm.2.1 hnm.2.2) fun M f H => ?_
    have hb := rk_cell (H.at 0 rfl)
    simp (disch := omega) only [go_sem, undef, hb, rkC, Bool.not_true]
    refine callQ H (htn _ (H.at 0 rfl)) fun M f2 H => ?_
    have hb := rk_cell (H.at 0 rfl)
    simp (disch := omega) only [go_sem, undef, hb, rkC, dec_f (show ¬ ((tot D.fl : Nat) : Int) + (p.length : Nat) > (D.quota : Nat) by omega)]
    refine callS0 (rkA rb fv rs D1) H (hps _ (H.at 0 rfl)) (by simp [rkA, starA, bsA]) (by simp [rkA, starA, bsA]) fun M f H => ?_
    by_cases he1 : e1 = 0
    rotate_left
    · rw [if_pos he1] at ho
      subst ho
      have : e1 = 10 := by omega
      subst this
      simp (disch := omega) only [go_sem, undef]
      exact rm_done H
    subst he1
    rw [if_neg (by simp)] at ho
    simp (disch := omega) only [go_sem, undef]
    subst hC
    simp (disch := omega) only [go_sem, undef]
    refine callA0 H (hpc _ _ _ (H.at 0 rfl)) fun u M A' hR f H => ?_
    refine Exists.elim hR.2 fun fv1 hh => Exists.elim hh fun rs1 eA => ?_
    have eu := hR.1
    subst eu eA
    clear hh hR
    refine Exists.elim hpa fun y hh => ?_
    have hy := hh.1
    have hyb := hh.2
    clear hh hpa
    have hyl : y.b.length ≤ 500000000 := by rw [hyb]; omega
    have hset := hset y hy
    rw [← hset] at ho
    clear hset
    generalize (findF nm D.fl 0).1 = i at *
    generalize plcF nm D1 = D2 at *
    have hi := (List.getElem?_eq_some_iff.1 hy).1
    have hp := H.at 0 rfl
    have hb := rk_cell hp
    have hlen := rk_len hp
    refine F2_at (i := i) (rk_row hp) (by omega) fun r y' hr1 hy' hR => ?_
    rw [hy] at hy'
    cases hy'
    refine Own.rowK ((H.ropen).at 1 rfl) (by omega) fun b cap tail efv hbb hll2 => ?_
    subst efv
    have hE := RdS.elO (rk_rds hp) rfl hr1 (by decide)
    have hc := hE.cell 1 _ rfl
    refine Exists.elim hR.2.2.1.form fun a3 hh => Exists.elim hh fun c3 ev => ?_
    rw [ev] at hc
    have hRb := hR.2.2.1
    rw [ev] at hRb
    have hil : i < rs1.length := by omega
    simp (disch := omega) only [go_sem, undef, hb, rkC, rd_ixs, hc]
    refine newQ H fun b4 M f4 H => ?_
    have hb := H.cs.2.1
    have hc := (RdS.elO (rk_rds (H.at 1 rfl)) rfl hr1 (by decide)).cell 1 _ rfl
    rw [ev] at hc
    simp (disch := omega) only [go_sem, undef, hb, rkC, rd_ixs, hc]
    have H := H.toRow (l := []) 1 0 0 rfl (by omega)
    simp only [Nat.zero_mul, List.take_zero] at H
    refine appQ0 (bytes := 1) (zero := [.int .u8 0]) H (k := y.b.length) rfl (ldS_of (l := y.b) (c := c3) (hRb.frame f4)) (by rw [bys_len]; omega) (bys_one _) rfl (by omega) (by omega) fun w M f5 H => ?_
    have H : Hq m M (rkA rb fv rs D).wp [byA T_uint8 w y.b, rkA rb (.slice (some ⟨b, 0, none⟩) rs1.length cap) rs1 D2] := by simpa [bys, ownA, byA] using H
    have hb := H.cs.1
    simp (disch := omega) only [go_sem, undef, hb, rkC, rd_ixs]
    have hpv2 : RdB M (.slice a p.length c) p := hpv.st fun b hb => H.fr b (hpn b hb).2 (hpn b hb).1
    refine appQ0 (bytes := 1) (zero := [.int .u8 0]) H (k := p.length) rfl (ldS_of hpv2) (by rw [bys_len]; omega) (bys_one _) rfl (by omega) (by omega) fun w M f6 H => ?_
    have H : Hq m M (rkA rb fv rs D).wp [byA T_uint8 w (y.b ++ p), rkA rb (.slice (some ⟨b, 0, none⟩) rs1.length cap) rs1 D2] := by rw [← byA_app]; exact H
    refine Own.formK (H.at 0 rfl) fun a4 c4 e4 => ?_
    subst e4
    have hb := H.cs.1
    simp (disch := omega) only [go_sem, undef, hb, rkC, rd_ixs]
    have H := Hq.ropen (H.perm (List.Perm.swap ..))
    rw [List.length_append] at H
    refine rputFile (r' := (r.1, .slice a4 (y.b.length + p.length) c4, r.2.2)) H.rot3 hr1 (by decide) rfl fun M f H => ?_
    have H := bs_put (i := i) (r := r) (r' := (r.1, .slice a4 (y.b.length + p.length) c4, r.2.2)) (f' := apT p y) H.rev4 rfl rfl hR.1 hR.2.1
    have H := Hq.rclose (D := { D2 with fl := D2.fl.set i (apT p y) }) H.rot3'.rot3'
    simp (disch := omega) only [go_sem, undef]
    subst ho
    exact rm_done H
end Go.Fw
namespace Go.Fw
open Go.Proofs
variable {m m0 M : Mem} {S : List Nat} {L : List As}
variable {rb : Nat} {fv : Value} {rs : List Row} {D : Dk}
end Go.Fw
