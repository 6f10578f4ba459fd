import Derived.Test.YtbbiiodadoeflaaGreatDoorRc
import Derived.Test.YtbbiiodadoeflaaGreatDoorRp
import Derived.Test.YtbbiiodadoeflaaGreatDoorWe
import Derived.Test.YtbbiiodadoeflaaGreatDoorWf
import Derived.SizedLaws
set_option linter.unusedVariables false
set_option linter.unusedSimpArgs false
namespace Go.Fw
open Go.Proofs
variable {m m0 M : Mem} {S : List Nat} {L : List As}
variable {rb wb : Nat} {fv : Value} {rs : List Row} {D : Dk}
/-! the program: power for any number of changes, records that may not be -/
set_option maxHeartbeats 4000000 in
theorem arm_any (h : (dkA rb fv rs D).p m) (n : Int) (hn : -9223372036854775808 ≤ n ∧ n ≤ 9223372036854775807) : CM Tryz.prog n_disk_Disk_Arm [lpD rb, .int .i64 n] m (dkA rb fv rs D) (DkR rb ⟨D.quota, D.fl, D.off, decide (0 ≤ n), n.toNat⟩ (.tuple #[])) := by
  have H := Hq.one h
  have hb := dk_cell h
  have hd : decide (n ≥ 0) = decide (0 ≤ n) := rfl
  refine disk_Disk_Arm_go (by simp [Tryz.f33]) ?_
  simp (disch := omega) only [go_sem, undef, hb, dkC]
  refine wrQ0 H.dk fun M f H => ?_
  have H := Hq.kd (l := dkC fv { D with armed := decide (0 ≤ n) }) (D := D) { D with armed := decide (0 ≤ n) } H rfl rfl
  have hb := dk_cell (H.at 0 rfl)
  simp (disch := omega) only [go_sem, undef, hb, dkC]
  refine wrQ0 H.dk fun M f H => ?_
  rw [show max n 0 = ((n.toNat : Nat) : Int) from by omega] at H
  have H := Hq.kd (l := dkC fv ⟨D.quota, D.fl, D.off, decide (0 ≤ n), n.toNat⟩) (D := { D with armed := decide (0 ≤ n) }) ⟨D.quota, D.fl, D.off, decide (0 ≤ n), n.toNat⟩ H rfl rfl
  simp (disch := omega) only [go_sem, undef]
  exact cm_done H
set_option maxHeartbeats 4000000 in
theorem frames_b {v0 lv : Value} {l0 : Bs} {vs : List Value} {ls : List Bs} (h0 : RdB m v0 l0) (hv : RdS 1 v1 m lv vs) (hF : F2 (fun v l => RdB m v l) vs ls) (hbad : ¬ ∀ p ∈ ls, okR p) (hl : vs.length ≤ 1000000) (hl0 : l0.length ≤ 1000000) (hT : ls.flatten.length ≤ 100000000) :
    MC Tryz.prog n_wal_frames [v0, lv] m fun u M => u = .tuple #[.slice none 0 0, .bool false] ∧ Fr m M [] := by
  refine wal_frames_go (by simp [Tryz.f33]) ?_
  have hvl := F2_len hF
  obtain ⟨a, c, rfl⟩ := hv.form
  simp (disch := omega) only [go_sem, undef]
  refine loopQ_intro (fun k E m' => ∃ j w, j ≤ vs.length ∧ k = vs.length - j ∧ E = [(0, w), (8, .slice a vs.length c), (9, .int .i64 (vs.length : Nat)), (10, .int .i64 (j : Nat))] ∧ RdB m' w (l0 ++ frs (ls.take j)) ∧ (∀ p ∈ ls.take j, okR p) ∧ Fr m m' []) vs.length rfl ⟨0, v0, by omega, by omega, rfl, by simpa [frs] using h0, by simp, Fr.refl _ _⟩ ?_
  rintro k E M1 ⟨j, w, hj, rfl, rfl, hw, hok, f⟩
  have H : Hq m M1 [] [] := (Hq.refl m []).keep f
  simp (disch := omega) only [go_sem, undef]
  refine condB_dec (fun hlt => ?_) (fun hlt => ?_)
  · have hlt : j < vs.length := by omega
    refine F2_at hF hlt fun r y hr1 hy hR => ?_
    refine RdS.elK (hv.frame f) hlt (by decide) fun bx o r' hr' hix hE => ?_
    rw [hr1] at hr'
    cases hr'
    have hR := hR.frame f
    refine Exists.elim hR.form fun a3 hh => Exists.elim hh fun c3 ev => ?_
    subst ev
    by_cases hz : y.length = 0
    · simp (disch := omega) only [go_sem, undef, hix, hE.ld0, dec_t (show ((y.length : Nat) : Int) = 0 by omega)]
      exact ⟨rfl, f⟩
    by_cases hb : 16384 < y.length
    · simp (disch := omega) only [go_sem, undef, hix, hE.ld0, dec_f (show ¬ ((y.length : Nat) : Int) = 0 by omega), dec_t (show ((y.length : Nat) : Int) > 16384 by omega)]
      exact ⟨rfl, f⟩
    have hyo : okR y := ⟨by omega, by omega⟩
    have ht0 := flat_le ls j
    have hfl := frs_len (ls.take j)
    have htl : (ls.take j).length ≤ 1000000 := by rw [List.length_take]; omega
    have hsn : frs (ls.take (j + 1)) = frs (ls.take j) ++ frB y := by rw [List.take_add_one, hy, Option.toList_some, frs_snoc]
    have hfo : frO y = frB y := if_pos hyo
    have hlen : (l0 ++ frs (ls.take j)).length ≤ 549755813888 := by rw [List.length_append, hfl]; omega
    simp (disch := omega) only [go_sem, undef, hix, hE.ld0, dec_f (show ¬ ((y.length : Nat) : Int) = 0 by omega), dec_f (show ¬ ((y.length : Nat) : Int) > 16384 by omega)]
    refine callN H (frame_Put_s hw hR hlen (by omega)) fun u M A' eA f2 H => ?_
    subst eA
    rw [hfo, List.append_assoc, ← hsn] at H
    simp (disch := omega) only [go_sem, undef]
    refine handN_intro (vs.length - (j + 1)) (by omega) ⟨j + 1, u, by omega, rfl, rfl, byA_rd (H.at 0 rfl), ?_, H.fr⟩
    rw [List.take_add_one, hy]
    intro p hp
    rcases List.mem_append.1 hp with hp | hp
    · exact hok p hp
    · rw [Option.toList_some, List.mem_singleton] at hp; subst hp; exact hyo
  · have e : j = vs.length := by omega
    subst e
    rw [hvl, List.take_length] at hok
    exact absurd hok hbad
theorem addX_ok {l : List Bs} {W : Wl} {D : Dk} (h : ∀ p ∈ l, okR p) : addX l W D = addF l W D := by
  unfold addX addF
  cases W.down with
  | true => rfl
  | false =>
    by_cases hg : W.g = 0
    · simp [hg]
    · simp only [hg, if_neg, if_pos h]; rfl
theorem anewX_ok {l : List Bs} {W : Wl} {D : Dk} (h : ∀ p ∈ l, okR p) : anewX l W D = anewF l W D := by
  unfold anewX anewF
  cases W.down with
  | true => rfl
  | false => simp only [if_pos h]; rfl
set_option maxHeartbeats 8000000 in
theorem add_a {W : Wl} (h : (wlA wb rb fv rs W D).p m) (hg : W.g < 100) (hk : W.k < 99) {lv : Value} {vs : List Value} {l : List Bs} (hv : RdS 1 v1 m lv vs) (hF : F2 (fun v l => RdB m v l) vs l) (hvl : vs.length ≤ 1000000) (hlt : l.flatten.length ≤ 100000000)
    (hn : D.fl.length ≤ 90000) (hl : D.left ≤ 9223372036854775807) (hT : tot D.fl ≤ 100000000) (hq : D.quota ≤ 500000000) :
    CM Tryz.prog n_wal_Wal_Add [lpD wb, lv] m (wlA wb rb fv rs W D) (WlR wb rb (addX l W D).1 (addX l W D).2.1 (.int .i64 ((addX l W D).2.2 : Nat))) := by
  by_cases hok : ∀ p ∈ l, okR p
  · rw [addX_ok hok]
    exact add_s h hg hk hv hF hok hvl hlt hn hl hT hq
  obtain ⟨o, ho⟩ : ∃ o, o = addX l W D := ⟨_, rfl⟩
  rw [← ho]
  unfold addX at ho
  obtain ⟨g, k, down⟩ := W
  simp only at ho hg hk
  have hfb := frames_b (v0 := .slice none 0 0) (l0 := []) bytes_nil hv hF hok hvl (by simp) hlt
  obtain ⟨a, c, rfl⟩ := hv.form
  have H := (Hq.one h).split
  have hw := H.cs.1
  cases down with
  | true =>
    rw [if_pos rfl] at ho
    refine wal_Wal_Add_go (by simp [Tryz.f33]) ?_
    simp (disch := omega) only [go_sem, undef, hw, wlC]
    exact wl_done2 ho H.join
  | false =>
    rw [if_neg (by simp)] at ho
    by_cases hg0 : g = 0
    · rw [if_pos hg0] at ho
      refine wal_Wal_Add_go (by simp [Tryz.f33]) ?_
      simp (disch := omega) only [go_sem, undef, hw, wlC, dec_t (show ((g : Nat) : Int) = 0 by omega)]
      exact wl_done2 ho H.join
    rw [if_neg hg0, if_neg hok] at ho
    refine wal_Wal_Add_go (by simp [Tryz.f33]) ?_
    rw [add_code]
    generalize hC : addTail = C
    simp (disch := omega) only [go_sem, undef, hw, wlC, dec_f (show ¬ ((g : Nat) : Int) = 0 by omega)]
    refine callQ H hfb fun M f H => ?_
    simp (disch := omega) only [go_sem, undef]
    exact wl_done2 ho H.join
set_option maxHeartbeats 8000000 in
theorem anew_a {W : Wl} (h : (wlA wb rb fv rs W D).p m) (hg : W.g < 99) (hk : W.k < 99) {lv : Value} {vs : List Value} {l : List Bs} (hv : RdS 1 v1 m lv vs) (hF : F2 (fun v l => RdB m v l) vs l) (hvl : vs.length ≤ 1000000) (hlt : l.flatten.length ≤ 100000000)
    (hn : D.fl.length ≤ 90000) (hl : D.left ≤ 9223372036854775807) (hT : tot D.fl ≤ 100000000) (hq : D.quota ≤ 500000000) :
    CM Tryz.prog n_wal_Wal_Anew [lpD wb, lv] m (wlA wb rb fv rs W D) (WlR wb rb (anewX l W D).1 (anewX l W D).2.1 (.int .i64 ((anewX l W D).2.2 : Nat))) := by
  by_cases hok : ∀ p ∈ l, okR p
  · rw [anewX_ok hok]
    exact anew_s h hg hk hv hF hok hvl hlt hn hl hT hq
  obtain ⟨o, ho⟩ : ∃ o, o = anewX l W D := ⟨_, rfl⟩
  rw [← ho]
  unfold anewX at ho
  have hll := F2_len hF
  have hnb := numB_len (l.length : Nat)
  have hfo : (frO (numB (l.length : Nat))).length ≤ 1000000 := by
    unfold frO; split
    · rw [frB_len]; omega
    · simp
  obtain ⟨g, k, down⟩ := W
  simp only at ho hg hk
  obtain ⟨a, c, rfl⟩ := hv.form
  have H := (Hq.one h).split
  have hw := H.cs.1
  cases down with
  | true =>
    rw [if_pos rfl] at ho
    refine wal_Wal_Anew_go (by simp [Tryz.f33]) ?_
    simp (disch := omega) only [go_sem, undef, hw, wlC]
    exact wl_done2 ho H.join
  | false =>
    rw [if_neg (by simp), if_neg hok] at ho
    refine wal_Wal_Anew_go (by simp [Tryz.f33]) ?_
    rw [anew_code]
    generalize hC : anTail = C
    simp (disch := omega) only [go_sem, undef, hw, wlC]
    refine callN H (pack_Num_w (l := []) bytes_nil (by simp) (vs.length : Nat) (by omega)) fun u M A' eA f H => ?_
    subst eA
    rw [List.nil_append, hll] at H
    have hu := byA_rd (H.at 0 rfl)
    simp (disch := omega) only [go_sem, undef]
    refine callN H (frame_Put_s (l := []) bytes_nil hu (by simp) (by omega)) fun u2 M A' eA f2 H => ?_
    subst eA
    rw [List.nil_append] at H
    simp (disch := omega) only [go_sem, undef]
    refine callQ H (frames_b (byA_rd (H.at 0 rfl)) (hv.frame (f.trans0 f2)) (F2_imp hF fun v hv l hl => (hl.frame f).frame f2) hok hvl hfo hlt) fun M f3 H => ?_
    simp (disch := omega) only [go_sem, undef]
    exact wl_done2 ho H.tail.tail.join
end Go.Fw
namespace Go.Fw
open Go.Proofs
variable {m m0 M : Mem} {S : List Nat} {L : List As}
variable {rb wb rb2 : Nat} {fv fv2 : Value} {rs rs2 : List Row} {D D2 : Dk}
theorem RdS.there {α : Type} {k : Nat} {enc : α → List Value} {v : Value} {l : List α} (h : RdS k enc m v l) (k0 : 0 < k) (hl : l ≠ []) : ∀ b ∈ blkOf v, m b ≠ none := by
  obtain ⟨hk, a, c, rfl, hc, hr⟩ := h
  intro b hb
  rcases hr with h0 | ⟨b', o, rfl, h⟩
  · have := fm_len hk l
    rw [h0] at this
    have := List.length_pos_iff.2 hl
    have : 0 < l.length * k := Nat.mul_pos this k0
    simp at *; omega
  · have hb : b = b' := by simpa [blkOf] using hb
    subst hb
    have hlen := fm_len hk l
    have hpos : 0 < (l.flatMap enc).length := by rw [hlen]; exact Nat.mul_pos (List.length_pos_iff.2 hl) k0
    have := h 0 _ (List.getElem?_eq_getElem hpos)
    intro e
    rw [e] at this
    simp [cellAt] at this
/-- a call of the law, as it came in -/
structure AkV where
  kind : Int
  n : Int
  rv : Value
  pv : Value
  vs : List Value
  ls : List Bs
  ps : List Int
def akE (a : AkV) : List Value := [.int .i64 a.kind, .int .i64 a.n, a.rv, a.pv]
theorem akE_len (a : AkV) : (akE a).length = 4 := rfl
structure AkOk (m : Mem) (a : AkV) : Prop where
  kind : R64i a.kind
  n : R64i a.n
  rv : RdS 1 v1 m a.rv a.vs
  vs : F2 (fun v l => RdB m v l) a.vs a.ls
  vl : a.vs.length ≤ 9223372036854775807
  ll : ∀ l ∈ a.ls, l.length ≤ 140737488355328
  pv : RdS 1 ic m a.pv a.ps
  ps : ∀ x ∈ a.ps, R64i x
  pl : a.ps.length ≤ 9223372036854775807
theorem AkOk.frame {a : AkV} (h : AkOk m a) (f : Fr m M []) : AkOk M a := ⟨h.kind, h.n, h.rv.frame f, F2_imp h.vs fun _ _ _ h => h.frame f, h.vl, h.ll, h.pv.frame f, h.ps, h.pl⟩
theorem flat_tk {α : Type} (l : List (List α)) (j : Nat) (y : List α) (hy : l[j]? = some y) : (l.take (j + 1)).flatten.length = (l.take j).flatten.length + y.length := by
  rw [List.take_add_one, hy]; simp
set_option maxHeartbeats 4000000 in
theorem light_s {a : AkV} (h : AkOk m a) : MC Tryz.prog n_law10_light [.agg (akE a).toArray] m fun u M => (∃ b : Bool, u = .bool b ∧ (b = true → a.vs.length ≤ 9000 ∧ a.ls.flatten.length ≤ 9000 ∧ a.ps.length ≤ 20)) ∧ Fr m M [] := by
  obtain ⟨kind, n, rv, pv, vs, ls, ps⟩ := a
  obtain ⟨hk, hn, hrv, hvs, hvl, hll, hpv, hps, hpl⟩ := h
  simp only at *
  have hlen := F2_len hvs
  obtain ⟨ra, rc, rfl⟩ := hrv.form
  obtain ⟨pa, pc', rfl⟩ := hpv.form
  refine law10_light_go (by simp [Tryz.f33]) ?_
  have H := Hq.refl m []
  simp (disch := omega) only [go_sem, undef, akE]
  refine newQ H fun b M f H => ?_
  have hb := H.cs.1
  simp (disch := omega) only [go_sem, undef, hb]
  refine loopQ_intro (fun k E m' => ∃ j, j ≤ vs.length ∧ k = vs.length - j ∧ (ls.take j).flatten.length + j ≤ 9000 ∧ E = [(1, .pointer (some ⟨b, 0, none⟩)), (3, .int .i64 (((ls.take j).flatten.length + j : Nat) : Int)), (4, .int .i64 (j : Nat))] ∧ m' = M) vs.length rfl ⟨0, by omega, by omega, by simp, by rw [List.take_zero]; rfl, rfl⟩ ?_
  rintro k E M1 ⟨j, hj, rfl, hs, rfl, rfl⟩
  by_cases hlt : j < vs.length
  · refine F2_at hvs hlt fun r y hr1 hy hR => ?_
    refine RdS.elK (hrv.frame f) hlt (by decide) fun bx o r' hr' hix hE => ?_
    rw [hr1] at hr'
    cases hr'
    have hyl := hll y (List.mem_of_getElem? hy)
    have hft := flat_tk ls j y hy
    refine Exists.elim hR.form fun a3 hh => Exists.elim hh fun c3 ev => ?_
    subst ev
    simp (disch := omega) only [go_sem, undef, hb, dec_t (show ((j : Nat) : Int) < (vs.length : Nat) by omega), hix, hE.ld0]
    by_cases hbig : (ls.take j).flatten.length + j + y.length + 1 > 9000
    · simp (disch := omega) only [go_sem, undef, dec_t (show (((ls.take j).flatten.length + j : Nat) : Int) + (y.length : Nat) + 1 > 9000 by omega)]
      exact ⟨⟨false, rfl, by intro h; cases h⟩, f⟩
    · simp (disch := omega) only [go_sem, undef, dec_f (show ¬ (((ls.take j).flatten.length + j : Nat) : Int) + (y.length : Nat) + 1 > 9000 by omega)]
      have e : (((ls.take j).flatten.length + j : Nat) : Int) + (y.length : Nat) + 1 = (((ls.take (j + 1)).flatten.length + (j + 1) : Nat) : Int) := by omega
      exact handN_intro (vs.length - (j + 1)) (by omega) ⟨j + 1, by omega, rfl, by omega, by rw [e] <;> rfl, rfl⟩
  · have e : j = vs.length := by omega
    subst e
    rw [hlen, List.take_length] at hs
    simp (disch := omega) only [go_sem, undef, hb, dec_f (show ¬ ((vs.length : Nat) : Int) < (vs.length : Nat) by omega)]
    exact ⟨⟨_, rfl, fun h => ⟨by omega, by omega, by have := of_decide_eq_true h; omega⟩⟩, f⟩
set_option maxHeartbeats 4000000 in
theorem sames_s {v u : Value} {l : List Bs} (hv : (nsA v l).p m) (hu : RdS 1 nmE m u l) (hl : l.length ≤ 1000000000) : MC Tryz.prog n_book_Same_string [v, u] m fun w M => w = .bool true ∧ Fr m M [] := by
  have hv := Own.rds (k := 1) (enc := nmE) (by decide) nmE_len hv
  obtain ⟨a, c, rfl⟩ := hv.form
  obtain ⟨a2, c2, rfl⟩ := hu.form
  refine book_Same_string_go (by simp [Tryz.f33]) ?_
  simp (disch := omega) only [go_sem, undef, dec_f (show ¬ ((l.length : Nat) : Int) ≠ (l.length : Nat) by omega)]
  refine loopQ_intro (fun k E m' => ∃ j, j ≤ l.length ∧ k = l.length - j ∧ E = [(0, .slice a l.length c), (1, .slice a2 l.length c2), (5, .int .i64 (j : Nat))] ∧ m' = m) l.length rfl ⟨0, by omega, by omega, rfl, rfl⟩ ?_
  rintro k E M1 ⟨j, hj, rfl, rfl, rfl⟩
  by_cases hlt : j < l.length
  · refine RdS.elK hv hlt (by decide) fun bx o x hx hix hE => ?_
    refine RdS.elK hu hlt (by decide) fun bx2 o2 y hy hiy hE2 => ?_
    rw [hx] at hy
    cases hy
    have hnm0 : (nmE x)[0]? = some (.string (zb x)) := rfl
    simp (disch := omega) only [go_sem, undef, dec_t (show ((j : Nat) : Int) < (l.length : Nat) by omega), hix, hiy, hE.ld0, hE2.ld0, hnm0, rd_str_neq, dec_t (rfl : zb x = zb x), Bool.not_true]
    exact handN_intro (l.length - (j + 1)) (by omega) ⟨j + 1, by omega, rfl, rfl, rfl⟩
  · have e : j = l.length := by omega
    subst e
    simp (disch := omega) only [go_sem, undef, dec_f (show ¬ ((l.length : Nat) : Int) < (l.length : Nat) by omega)]
    exact ⟨rfl, Fr.refl _ _⟩
theorem look_nb (nm : Bs) : ∀ (l r : List Fl), l.map nb = r.map nb → (lookF nm l).map Fl.b = (lookF nm r).map Fl.b
  | [], [], _ => rfl
  | [], _ :: _, h => by simp at h
  | _ :: _, [], h => by simp at h
  | x :: l, y :: r, h => by
    simp only [List.map_cons, List.cons.injEq, nb, Prod.mk.injEq] at h
    obtain ⟨⟨h1, h2⟩, h3⟩ := h
    have ih := look_nb nm l r h3
    rw [look_cons, look_cons, h1]
    by_cases h4 : Op.bytesLess y.name nm = true
    · rw [if_pos h4, if_pos h4]; exact ih
    · rw [if_neg h4, if_neg h4]
      by_cases h5 : y.name = nm
      · rw [if_pos h5, if_pos h5]; simp [h2]
      · rw [if_neg h5, if_neg h5]
theorem rdB_nb {nm : Bs} {l r : List Fl} (h : l.map nb = r.map nb) : rdB (lookF nm l) = rdB (lookF nm r) := by
  unfold rdB; rw [look_nb nm l r h]
theorem nm_nb {l r : List Fl} (h : l.map nb = r.map nb) : l.map Fl.name = r.map Fl.name := by
  have := congrArg (List.map Prod.fst) h
  simpa [Function.comp_def, nb] using this
set_option maxHeartbeats 8000000 in
theorem alike_s (h : (dkA rb fv rs D).p m) (h2 : (rkA rb2 fv2 rs2 D2).p m) (hs : Srt D.fl) (hs2 : Srt D2.fl) (hnb : D.fl.map nb = D2.fl.map nb) (hn : D.fl.length ≤ 1000000) (hT : tot D.fl ≤ 1000000000) (hT2 : tot D2.fl ≤ 1000000000) :
    MC Tryz.prog n_law10_alike [lpD rb, lpD rb2] m fun u M => u = .bool true ∧ Fr m M [] := by
  have hn2 : D2.fl.length ≤ 1000000 := by have := congrArg List.length hnb; simp at this; omega
  have hnm := nm_nb hnb
  have hlb : ∀ nm, (rdB (lookF nm D.fl)).length ≤ tot D.fl := fun nm => lookF_len nm D.fl
  refine law10_alike_go (by simp [Tryz.f33]) ?_
  have H := Hq.refl m []
  simp (disch := omega) only [go_sem, undef]
  refine callN H (rnames_s h2 (by omega)) fun u M A' eA f H => ?_
  subst eA
  simp (disch := omega) only [go_sem, undef]
  refine callN H (names_s ((dkA rb fv rs D).fr0 h H.fr) (by omega)) fun u2 M A' eA f H => ?_
  subst eA
  rw [hnm] at H
  have hl2 : (D2.fl.map Fl.name).length ≤ 1000000000 := by rw [List.length_map]; omega
  simp (disch := omega) only [go_sem, undef]
  refine callQ H (sames_s (H.at 0 rfl) (Own.rds (k := 1) (enc := nmE) (by decide) nmE_len (H.at 1 rfl)) hl2) fun M f H => ?_
  have H := H.tail
  generalize D2.fl.map Fl.name = ns at *
  refine Own.formK (H.at 0 rfl) fun a c e => ?_
  subst e
  simp (disch := omega) only [go_sem, undef, Bool.not_true]
  refine loopQ_intro (fun k E m' => ∃ j, j ≤ ns.length ∧ k = ns.length - j ∧ E = [(0, lpD rb), (1, lpD rb2), (5, .slice a ns.length c), (6, .int .i64 (j : Nat))] ∧ Hq m m' [] [nsA (.slice a ns.length c) ns]) ns.length rfl ⟨0, by omega, by omega, rfl, H⟩ ?_
  clear H f
  rintro k E M1 ⟨j, hj, rfl, rfl, H⟩
  by_cases hlt : j < ns.length
  · refine RdS.elK (Own.rds (k := 1) (enc := nmE) (by decide) nmE_len (H.at 0 rfl)) hlt (by decide) fun bx o x hx hix hE => ?_
    have hnm0 : (nmE x)[0]? = some (.string (zb x)) := rfl
    have heq := rdB_nb (nm := x) hnb
    have hlx := hlb x
    simp (disch := omega) only [go_sem, undef, dec_t (show ((j : Nat) : Int) < (ns.length : Nat) by omega), hix, hE.ld0, hnm0]
    refine callN H (read_s ((dkA rb fv rs D).fr0 h H.fr) x (by omega) (by omega)) fun u M A' hR f H => ?_
    refine Exists.elim hR fun w1 hh => ?_
    have eu := hh.1
    have eA := hh.2
    subst eu eA
    clear hh hR
    simp (disch := omega) only [go_sem, undef, hix, (hE.frame f).ld0, hnm0]
    refine callR H (rread_s ((rkA rb2 fv2 rs2 D2).fr0 h2 H.fr) x hs2 (by omega)) fun u M hR f2 H => ?_
    refine Exists.elim hR fun w2 hh => ?_
    have eu := hh.1
    have hb2 := hh.2
    subst eu
    clear hh hR
    rw [← heq] at hb2
    simp (disch := omega) only [go_sem, undef]
    refine callQ H (same_s (byA_rd (H.at 0 rfl)) hb2 (by omega) (by omega)) fun M f3 H => ?_
    simp (disch := omega) only [go_sem, undef, decide_eq_true (rfl : rdB (lookF x D.fl) = rdB (lookF x D.fl)), Bool.not_true]
    exact handN_intro (ns.length - (j + 1)) (by omega) ⟨j + 1, by omega, rfl, rfl, H.tail⟩
  · have e : j = ns.length := by omega
    subst e
    simp (disch := omega) only [go_sem, undef, dec_f (show ¬ ((ns.length : Nat) : Int) < (ns.length : Nat) by omega)]
    exact ⟨rfl, H.fr⟩
end Go.Fw
namespace Go.Fw
open Go.Proofs
/-! What holds of the disk and the log behind any calls. Plain. -/
structure PlI (q i : Nat) (D : Dk) : Prop where
  srt : Srt D.fl
  nm : ∀ x ∈ D.fl, ∃ g k, 0 < g ∧ g ≤ i ∧ 0 < k ∧ k ≤ i ∧ x.name = nmB g k
  tt : tot D.fl ≤ q
  kp : ∀ x ∈ D.fl, x.kept ≤ x.b.length
  qt : D.quota = q
  lf : D.left ≤ 9223372036854775807
structure PW (i : Nat) (W : Wl) : Prop where
  g : W.g ≤ i
  k : W.k ≤ i
  pos : W.g = 0 ∨ 0 < W.k
theorem PW.mono {i j : Nat} {W : Wl} (h : PW i W) (hij : i ≤ j) : PW j W := ⟨Nat.le_trans h.g hij, Nat.le_trans h.k hij, h.pos⟩
theorem PlI.mono {q i j : Nat} {D : Dk} (h : PlI q i D) (hij : i ≤ j) : PlI q j D := ⟨h.srt, fun x hx => by
  obtain ⟨g, k, h1, h2, h3, h4, e⟩ := h.nm x hx
  exact ⟨g, k, h1, by omega, h3, by omega, e⟩, h.tt, h.kp, h.qt, h.lf⟩
theorem PlI.pres {q i : Nat} {D D' : Dk} (h : PlI q i D) (p : Pres D D') : PlI q i D' := ⟨p.srt h.srt, fun y hy => by
  obtain ⟨x, hx, e⟩ := p.nm y hy
  rw [← e]; exact h.nm x hx, Nat.le_trans p.tt h.tt, p.kp h.kp, p.qt.trans h.qt, Nat.le_trans p.lf h.lf⟩
theorem PlI.len {q i : Nat} {D : Dk} (h : PlI q i D) (hi : i ≤ 26) : D.fl.length ≤ 676 := by
  have := len_sub (D.fl.map Fl.name) ((List.range 26).flatMap fun g => (List.range 26).map fun k => nmB (g + 1) (k + 1)) (srt_nod h.srt) fun x hx => by
    obtain ⟨y, hy, rfl⟩ := List.mem_map.1 hx
    obtain ⟨g, k, h1, h2, h3, h4, e⟩ := h.nm y hy
    refine List.mem_flatMap.2 ⟨g - 1, List.mem_range.2 (by omega), List.mem_map.2 ⟨k - 1, List.mem_range.2 (by omega), ?_⟩⟩
    rw [e, show g - 1 + 1 = g from by omega, show k - 1 + 1 = k from by omega]
  have e : ((List.range 26).flatMap fun g => (List.range 26).map fun k => nmB (g + 1) (k + 1)).length = 676 := by
    decide +kernel
  rw [e] at this
  simpa using this
theorem PlI.pl {q i : Nat} {D : Dk} (h : PlI q i D) (hi : i ≤ 26) : ∀ x ∈ D.fl, PlOk x.name := fun x hx hn => by
  obtain ⟨g, k, h1, h2, h3, h4, e⟩ := h.nm x hx
  rw [e, plF_nm h1 (by omega) h3 (by omega)] at hn; cases hn
theorem PlI.nmo {q i : Nat} {D : Dk} (h : PlI q i D) (hi : i ≤ 26) : ∀ x ∈ D.fl, NmOk x.name := fun x hx => by
  obtain ⟨g, k, h1, h2, h3, h4, e⟩ := h.nm x hx
  rw [e]; exact nmOk_nm h1 (by omega) h3 (by omega)
theorem PlI.nml {q i : Nat} {D : Dk} (h : PlI q i D) (hi : i ≤ 26) : ∀ x ∈ D.fl, x.name.length ≤ 1000000 := fun x hx => by
  obtain ⟨g, k, h1, h2, h3, h4, e⟩ := h.nm x hx
  have := (nm_may g k (by omega) (by omega)).2.1
  rw [e]; omega
theorem PlI.no {q i : Nat} {D : Dk} (h : PlI q i D) (hi : i ≤ 26) {g k : Nat} (hg : g < 100) (hk : k < 100) (hik : i < k) : lookF (nmB g k) D.fl = none := by
  cases hl : lookF (nmB g k) D.fl with
  | none => rfl
  | some x =>
    obtain ⟨hx, e⟩ := look_name hl
    obtain ⟨g', k', h1, h2, h3, h4, e2⟩ := h.nm x hx
    have := (nmB_inj hg hk (by omega) (by omega) (e.symm.trans e2)).2
    omega
theorem PlI.n99 {q i : Nat} {D : Dk} (h : PlI q i D) (hi : i ≤ 26) : ∀ g, g < 100 → lookF (nmB g 99) D.fl = none := fun g hg => h.no hi hg (by omega) (by omega)
theorem b_le {l : List Fl} {x : Fl} (hs : Srt l) (hx : x ∈ l) : x.b.length ≤ tot l := lookF_tot (mem_look hs hx)
theorem PlI.kb {q i : Nat} {D : Dk} (h : PlI q i D) : ∀ x ∈ D.fl, x.kept ≤ q := fun x hx => Nat.le_trans (h.kp x hx) (Nat.le_trans (b_le h.srt hx) h.tt)
theorem pl_crash {q i : Nat} {D : Dk} (h : PlI q i D) (ps : List Int) : PlI q i (crF ps D) := by
  have hm : (crL ps D.fl).map Fl.name = D.fl.map Fl.name := List.ext_getElem? fun j => by
    unfold crL
    rw [List.getElem?_map, List.getElem?_map, List.getElem?_mapIdx]
    cases D.fl[j]? <;> rfl
  have hmem : ∀ y ∈ crL ps D.fl, ∃ x ∈ D.fl, ∃ p, y = crT p x := fun y hy => by
    obtain ⟨j, hj⟩ := List.getElem?_of_mem hy
    unfold crL at hj
    rw [List.getElem?_mapIdx] at hj
    cases hx : D.fl[j]? with
    | none => rw [hx] at hj; cases hj
    | some x => rw [hx] at hj; exact ⟨x, List.mem_of_getElem? hx, _, (Option.some.inj hj).symm⟩
  have htt : ∀ (l : List Fl) (f : Nat → Nat), tot (l.mapIdx fun j x => crT (f j) x) ≤ tot l := by
    intro l
    induction l with
    | nil => intro f; exact Nat.le_refl _
    | cons x r ih =>
      intro f
      rw [List.mapIdx_cons]
      have h1 := ih fun j => f (j + 1)
      have h2 : (crT (f 0) x).b.length ≤ x.b.length := by simp [crT]; omega
      simp only [tot, List.map_cons, List.sum_cons] at *; omega
  refine ⟨?_, fun y hy => ?_, Nat.le_trans (htt D.fl _) h.tt, fun y hy => ?_, h.qt, Nat.zero_le _⟩
  · show Srt (crL ps D.fl)
    unfold Srt; rw [hm]; exact h.srt
  · obtain ⟨x, hx, p, rfl⟩ := hmem y hy
    exact h.nm x hx
  · obtain ⟨x, hx, p, rfl⟩ := hmem y hy
    have := crN_le p x (h.kp x hx)
    simp only [crT, List.length_take]; omega
theorem pl_apd {q i : Nat} {D : Dk} (h : PlI q i D) {g k : Nat} (hg0 : 0 < g) (hg : g ≤ i) (hk0 : 0 < k) (hk : k ≤ i) (p : Bs) : PlI q i (apdF (nmB g k) p D).1 := by
  have hs := srt_apd (nmB g k) p h.srt
  have hok := apd_ok (nmB g k) p D
  have hpw := pres_pow D
  refine ⟨hs, fun y hy => ?_, ?_, fun y hy => ?_, hok.2.2.2.trans h.qt, Nat.le_trans hok.2.2.1 h.lf⟩
  · unfold apdF at hy
    split at hy
    · exact h.nm y hy
    split at hy
    · exact h.nm y hy
    split at hy
    · rw [powF_fl] at hy; exact h.nm y hy
    · simp only at hy
      split at hy
      · obtain ⟨z, hz, e⟩ := mem_upd (nm := nmB g k) hy
        rcases e with rfl | rfl
        · exact h.nm y hz
        · exact h.nm z hz
      · rcases mem_ins hy with rfl | hy
        · exact ⟨g, k, hg0, hg, hk0, hk, rfl⟩
        · exact h.nm y hy
  · have htt := h.tt
    have hq := h.qt
    have h2 := hok.2.1
    unfold apdF at h2 ⊢
    split
    · exact htt
    split
    · exact htt
    split
    · rw [powF_fl]; exact htt
    · rename_i h3 h4 h5
      rw [if_neg h3, if_neg h4, if_neg h5] at h2
      refine Nat.le_trans h2 ?_
      rw [hq] at h4; omega
  · unfold apdF at hy
    split at hy
    · exact h.kp y hy
    split at hy
    · exact h.kp y hy
    split at hy
    · rw [powF_fl] at hy; exact h.kp y hy
    · simp only at hy
      split at hy
      · obtain ⟨z, hz, e⟩ := mem_upd (nm := nmB g k) hy
        rcases e with rfl | rfl
        · exact h.kp y hz
        · have := h.kp z hz; simp only [List.length_append]; omega
      · rcases mem_ins hy with rfl | hy
        · exact Nat.zero_le _
        · exact h.kp y hy
theorem pl_wr {q i : Nat} {D : Dk} (h : PlI q i D) {g k : Nat} (hg0 : 0 < g) (hg : g ≤ i) (hk0 : 0 < k) (hk : k ≤ i) (p : Bs) (W : Wl) : PlI q i (wrF (nmB g k) p W D).2.1 := by
  have h1 := pl_apd h hg0 hg hk0 hk p
  have h2 := h1.pres (pres_sync (nmB g k) (apdF (nmB g k) p D).1)
  unfold wrF
  split
  · exact h1
  split
  · exact h2
  · exact h1
theorem pl_add {q i : Nat} {D : Dk} {W : Wl} (h : PlI q i D) (w : PW i W) (l : List Bs) : PlI q (i + 1) (addX l W D).2.1 ∧ PW (i + 1) (addX l W D).1 := by
  have h1 := h.mono (Nat.le_succ i)
  have w1 := w.mono (Nat.le_succ i)
  unfold addX
  split
  · exact ⟨h1, w1⟩
  split
  · exact ⟨h1, w1⟩
  split
  · rename_i hd hg hok
    unfold addF
    rw [if_neg hd, if_neg hg]
    have hk0 : 0 < W.k := w.pos.resolve_left hg
    have hgi := w.g
    have hki := w.k
    have hak : 0 < adK W D ∧ adK W D ≤ i + 1 := by unfold adK; split <;> omega
    split
    · exact ⟨h1, w1⟩
    have hw := pl_wr h1 (by omega) (show W.g ≤ i + 1 by omega) hak.1 hak.2 (frs l) W
    have hgk := wr_gk (nmB W.g (adK W D)) (frs l) W D
    split
    · exact ⟨hw, ⟨by rw [hgk.1]; exact w1.g, by rw [hgk.2]; exact w1.k, by rw [hgk.1, hgk.2]; exact w1.pos⟩⟩
    · exact ⟨hw, ⟨w1.g, hak.2, .inr hak.1⟩⟩
  · exact ⟨h1, w1⟩
theorem pres_anR (g : Nat) : ∀ (f k : Nat) (D : Dk), Pres D (anR g f k D).1
  | 0, k, D => Pres.refl D
  | f + 1, k, D => by
    have h := pres_rm (nmB g k) D
    unfold anR
    split
    · exact h
    · exact h.trans (pres_anR g f (k + 1) _)
theorem pl_anew {q i : Nat} {D : Dk} {W : Wl} (h : PlI q i D) (w : PW i W) (l : List Bs) : PlI q (i + 1) (anewX l W D).2.1 ∧ PW (i + 1) (anewX l W D).1 := by
  have h1 := h.mono (Nat.le_succ i)
  have w1 := w.mono (Nat.le_succ i)
  unfold anewX
  split
  · exact ⟨h1, w1⟩
  split
  · rename_i hd hok
    unfold anewF
    rw [if_neg hd]
    have hgi := w.g
    have hw := pl_wr h1 (show 0 < W.g + 1 by omega) (by omega) (show 0 < 1 by omega) (by omega) (hdR l) W
    have hgk := wr_gk (nmB (W.g + 1) 1) (hdR l) W D
    have ha := hw.pres (pres_anR W.g W.k 1 (wrF (nmB (W.g + 1) 1) (hdR l) W D).2.1)
    split
    · exact ⟨hw, ⟨by rw [hgk.1]; exact w1.g, by rw [hgk.2]; exact w1.k, by rw [hgk.1, hgk.2]; exact w1.pos⟩⟩
    split
    · exact ⟨ha, ⟨w1.g, w1.k, w1.pos⟩⟩
    · exact ⟨ha, ⟨by simp only; omega, by simp only; omega, .inr (by simp only; omega)⟩⟩
  · exact ⟨h1, w1⟩
theorem pl_op {q i : Nat} {D : Dk} (h : PlI q i D) (hi : i ≤ 26) : PlI q i (opF D).2.1 ∧ ∀ W, (opF D).1.1 = some W → PW i W := by
  refine ⟨h.pres (pres_op D), fun W hW => ?_⟩
  by_cases hg : grF D.fl = 0
  · unfold opF at hW
    rw [if_pos hg] at hW
    split at hW
    · cases hW
    · cases hW; exact ⟨Nat.zero_le _, Nat.zero_le _, .inl rfl⟩
  · have hw : wholeG D.fl (grF D.fl) := ((grN_max D.fl (D.fl.map Fl.name) 0).2.2).resolve_left hg
    have hlt : grF D.fl < 100 := grN_lt _ _ _ (by decide)
    obtain ⟨all, lk, size, x, hseg, hrd, hhd, hk0, hk99, hx, hsz, hor, hall⟩ := whole_seg hw (h.n99 hi _ hlt)
    obtain ⟨c, hc⟩ : ∃ c, c = (if ((all.tail, (grF D.fl, lk), size, true) : List Bs × (Nat × Nat) × Nat × Bool).2.2.1 < (rdB (lookF (nmB (grF D.fl) lk) D.fl)).length then cutF (nmB (grF D.fl) lk) size D else (D, 0)) := ⟨_, rfl⟩
    rw [opF_eq D hg _ hrd c hc.symm] at hW
    clear hc
    obtain ⟨hx1, hx2⟩ := look_name hx
    obtain ⟨g, k, h1, h2, h3, h4, e⟩ := h.nm x hx1
    obtain ⟨e1, e2⟩ := nmB_inj hlt (by omega) (by omega) (by omega) (hx2.symm.trans e)
    split at hW
    · cases hW
    split at hW
    · cases hW
    split at hW
    · cases hW
    · cases hW
      exact ⟨by simp only; omega, by simp only; omega, .inr hk0⟩
theorem opF_e {D : Dk} : (opF D).1.1 = none → (opF D).1.2 = [] := by
  by_cases hg : grF D.fl = 0
  · unfold opF
    rw [if_pos hg]
    split
    · exact fun _ => rfl
    · exact fun _ => rfl
  · obtain ⟨r, hr⟩ : ∃ r, r = readG D.fl (grF D.fl) := ⟨_, rfl⟩
    obtain ⟨c, hc⟩ : ∃ c, c = (if r.2.2.1 < (rdB (lookF (nmB r.2.1.1 r.2.1.2) D.fl)).length then cutF (nmB r.2.1.1 r.2.1.2) r.2.2.1 D else (D, 0)) := ⟨_, rfl⟩
    rw [opF_eq D hg r hr.symm c hc.symm]
    clear hc hr
    split
    · exact fun _ => rfl
    split
    · exact fun _ => rfl
    split
    · exact fun _ => rfl
    · intro h; cases h
end Go.Fw
namespace Go.Fw
open Go.Proofs
variable {m m0 M : Mem} {S : List Nat} {L : List As}
variable {rb wb rb2 wb2 : Nat} {fv fv2 : Value} {rs rs2 : List Row} {D D2 : Dk}
theorem segN_recs (fl : List Fl) (g T : Nat) (hT : ∀ nm x, lookF nm fl = some x → x.b.length ≤ T) : ∀ f k all lk size r, segN fl g f k all lk size = some r → (∀ p ∈ all, p.length ≤ 16384) → (∀ p ∈ r.1, p.length ≤ 16384) ∧ r.1.length ≤ all.length + f * T
  | 0, k, all, lk, size, r, h, ho => by
    rw [segN] at h; cases h; exact ⟨ho, by simp⟩
  | f + 1, k, all, lk, size, r, h, ho => by
    cases hl : lookF (nmB g k) fl with
    | none => rw [segN_sn hl] at h; cases h; exact ⟨ho, Nat.le_add_right _ _⟩
    | some x =>
      rw [segN_ss hl] at h
      have h2 := hT _ x hl
      have h3 := (scanF_le x.b).1
      have ho2 : ∀ p ∈ all ++ (scanF x.b).1, p.length ≤ 16384 := fun p hp => by
        rcases List.mem_append.1 hp with hp | hp
        · exact ho p hp
        · exact scanF_ok x.b p hp
      have hm : (f + 1) * T = f * T + T := Nat.succ_mul ..
      split at h
      · cases h
      split at h
      · cases h
        exact ⟨ho2, by simp only [List.length_append]; have := Nat.zero_le (f * T); omega⟩
      · obtain ⟨h4, h5⟩ := segN_recs fl g T hT f (k + 1) _ _ _ r h ho2
        refine ⟨h4, ?_⟩
        rw [List.length_append] at h5; omega
theorem opF_recs {D : Dk} {T : Nat} (hT : tot D.fl ≤ T) : (∀ p ∈ (opF D).1.2, p.length ≤ 16384) ∧ (opF D).1.2.length ≤ 99 * T := by
  have hrd : (∀ p ∈ (readG D.fl (grF D.fl)).1, p.length ≤ 16384) ∧ (readG D.fl (grF D.fl)).1.length ≤ 99 * T := by
    unfold readG
    cases h : segN D.fl (grF D.fl) 99 1 [] 0 0 with
    | none => simp
    | some r =>
      obtain ⟨all, lk, size⟩ := r
      obtain ⟨h1, h2⟩ := segN_recs D.fl (grF D.fl) T (fun nm x hx => Nat.le_trans (lookF_tot hx) hT) 99 1 [] 0 0 _ h (by simp)
      simp only
      split
      · exact ⟨fun p hp => h1 p (List.mem_of_mem_tail hp), by simp at h2 ⊢; omega⟩
      · simp
  by_cases hg : grF D.fl = 0
  · unfold opF
    rw [if_pos hg]
    split <;> simp
  · obtain ⟨r, hr⟩ : ∃ r, r = readG D.fl (grF D.fl) := ⟨_, rfl⟩
    obtain ⟨c, hc⟩ : ∃ c, c = (if r.2.2.1 < (rdB (lookF (nmB r.2.1.1 r.2.1.2) D.fl)).length then cutF (nmB r.2.1.1 r.2.1.2) r.2.2.1 D else (D, 0)) := ⟨_, rfl⟩
    rw [opF_eq D hg r hr.symm c hc.symm]
    rw [← hr] at hrd
    clear hc hr
    split
    · simp
    split
    · simp
    split
    · simp
    · exact hrd
def PlSt (m0 M : Mem) (rb rb2 : Nat) (Wo : Option Wl) (D : Dk) (u v : Value) : Prop :=
  match Wo with
  | some W => ∃ wb wb2 fv rs fv2 rs2, u = lpD wb ∧ v = lpD wb2 ∧ Hq m0 M [] [wlA wb rb fv rs W D, rwA wb2 rb2 fv2 rs2 W D]
  | none => u = .pointer none ∧ v = .pointer none ∧ ∃ fv rs fv2 rs2, Hq m0 M [] [dkA rb fv rs D, rkA rb2 fv2 rs2 D]
def PlL (rb rb2 : Nat) (Wo : Option Wl) (D : Dk) (u v : Value) (L0 : List As) : Prop :=
  match Wo with
  | some W => ∃ wb wb2 fv rs fv2 rs2, u = lpD wb ∧ v = lpD wb2 ∧ L0 = [wlA wb rb fv rs W D, rwA wb2 rb2 fv2 rs2 W D]
  | none => u = .pointer none ∧ v = .pointer none ∧ ∃ fv rs fv2 rs2, L0 = [dkA rb fv rs D, rkA rb2 fv2 rs2 D]
theorem PlL.back {Wo : Option Wl} {u v : Value} {L0 : List As} (h : PlL rb rb2 Wo D u v L0) (H : Hq m M [] L0) : PlSt m M rb rb2 Wo D u v := by
  cases Wo with
  | some W =>
    obtain ⟨wb, wb2, fv, rs, fv2, rs2, h1, h2, rfl⟩ := h
    exact ⟨wb, wb2, fv, rs, fv2, rs2, h1, h2, H⟩
  | none =>
    obtain ⟨h1, h2, fv, rs, fv2, rs2, rfl⟩ := h
    exact ⟨h1, h2, fv, rs, fv2, rs2, H⟩
theorem PlSt.toL {Wo : Option Wl} {u v : Value} (h : PlSt m M rb rb2 Wo D u v) : ∃ L0, Hq m M [] L0 ∧ PlL rb rb2 Wo D u v L0 := by
  cases Wo with
  | some W =>
    obtain ⟨wb, wb2, fv, rs, fv2, rs2, h1, h2, H⟩ := h
    exact ⟨_, H, wb, wb2, fv, rs, fv2, rs2, h1, h2, rfl⟩
  | none =>
    obtain ⟨h1, h2, fv, rs, fv2, rs2, H⟩ := h
    exact ⟨_, H, h1, h2, fv, rs, fv2, rs2, rfl⟩
theorem PlL.noneE {G : Prop} {u v : Value} {L0 : List As} (h : PlL rb rb2 none D u v L0) (k : ∀ fv rs fv2 rs2, u = .pointer none → v = .pointer none → L0 = [dkA rb fv rs D, rkA rb2 fv2 rs2 D] → G) : G := by
  obtain ⟨h1, h2, fv, rs, fv2, rs2, H⟩ := h
  exact k fv rs fv2 rs2 h1 h2 H
theorem PlL.someE {G : Prop} {W : Wl} {u v : Value} {L0 : List As} (h : PlL rb rb2 (some W) D u v L0) (k : ∀ wb wb2 fv rs fv2 rs2, u = lpD wb → v = lpD wb2 → L0 = [wlA wb rb fv rs W D, rwA wb2 rb2 fv2 rs2 W D] → G) : G := by
  obtain ⟨wb, wb2, fv, rs, fv2, rs2, h1, h2, H⟩ := h
  exact k wb wb2 fv rs fv2 rs2 h1 h2 H
theorem front_perm {α : Type} : ∀ (L : List α) (i : Nat) (h : i < L.length), List.Perm L (L[i] :: L.eraseIdx i)
  | [], _, h => by simp at h
  | x :: r, 0, _ => List.Perm.refl _
  | x :: r, i + 1, h => ((front_perm r i (by simpa using h)).cons x).trans (List.Perm.swap ..)
theorem Hq.front (H : Hq m0 m S L) (i : Nat) (h : i < L.length) : Hq m0 m S (L[i] :: L.eraseIdx i) := H.perm (front_perm L i h).symm
theorem PlL.open {Wo : Option Wl} {u v : Value} {L0 : List As} {X : As} (h : PlL rb rb2 Wo D u v L0) (H : Hq m M [] (X :: L0)) : ∃ fv rs fv2 rs2, Hq m M [] [X, dkA rb fv rs D, rkA rb2 fv2 rs2 D] := by
  cases Wo with
  | some W =>
    obtain ⟨wb, wb2, fv, rs, fv2, rs2, h1, h2, rfl⟩ := h
    have H : Hq m M [] [wlA wb rb fv rs W D, X, rwA wb2 rb2 fv2 rs2 W D] := H.front 1 (by simp)
    have H : Hq m M [] [dkA rb fv rs D, X, rwA wb2 rb2 fv2 rs2 W D] := (Hq.split (A := wcA wb rb W) H).tail
    have H : Hq m M [] [rwA wb2 rb2 fv2 rs2 W D, dkA rb fv rs D, X] := H.front 2 (by simp)
    have H : Hq m M [] [rkA rb2 fv2 rs2 D, dkA rb fv rs D, X] := (Hq.split (A := rwcA wb2 rb2 W) H).tail
    exact ⟨_, _, _, _, (H.front 2 (by simp) : Hq m M [] [X, rkA rb2 fv2 rs2 D, dkA rb fv rs D]).perm (List.Perm.cons _ (List.Perm.swap ..))⟩
  | none =>
    obtain ⟨h1, h2, fv, rs, fv2, rs2, rfl⟩ := h
    exact ⟨_, _, _, _, H⟩
theorem OpR.noneE {G : Prop} {o : (Option Wl × List Bs) × Dk × Nat} {u : Value} {A : As} (h : OpR rb o u A) (ho : o.1.1 = none) (k : ∀ fv rs, u = .tuple #[.pointer none, .slice none 0 0, .int .i64 (o.2.2 : Nat)] → A = dkA rb fv rs o.2.1 → G) : G := by
  unfold OpR at h
  rw [ho] at h
  obtain ⟨h1, fv, rs, h2⟩ := h
  exact k fv rs h1 h2
theorem OpR.someE {G : Prop} {o : (Option Wl × List Bs) × Dk × Nat} {W : Wl} {u : Value} {A : As} (h : OpR rb o u A) (ho : o.1.1 = some W) (k : ∀ wb w vs fv rs, u = .tuple #[lpD wb, w, .int .i64 0] → A = starA (rbA w vs o.1.2) (wlA wb rb fv rs W o.2.1) → G) : G := by
  unfold OpR at h
  rw [ho] at h
  obtain ⟨wb, w, vs, fv, rs, h1, h2⟩ := h
  exact k wb w vs fv rs h1 h2
theorem ROpR.noneE {G : Prop} {o : (Option Wl × List Bs) × Dk × Nat} {u : Value} {A : As} (h : ROpR rb o u A) (ho : o.1.1 = none) (k : ∀ fv rs, u = .tuple #[.pointer none, .slice none 0 0, .int .i64 (o.2.2 : Nat)] → A = rkA rb fv rs o.2.1 → G) : G := by
  unfold ROpR at h
  rw [ho] at h
  obtain ⟨h1, fv, rs, h2⟩ := h
  exact k fv rs h1 h2
theorem ROpR.someE {G : Prop} {o : (Option Wl × List Bs) × Dk × Nat} {W : Wl} {u : Value} {A : As} (h : ROpR rb o u A) (ho : o.1.1 = some W) (k : ∀ wb w vs fv rs, u = .tuple #[lpD wb, w, .int .i64 0] → A = starA (rbA w vs o.1.2) (rwA wb rb fv rs W o.2.1) → G) : G := by
  unfold ROpR at h
  rw [ho] at h
  obtain ⟨wb, w, vs, fv, rs, h1, h2⟩ := h
  exact k wb w vs fv rs h1 h2
theorem PlSt.noneE {G : Prop} {u v : Value} (h : PlSt m M rb rb2 none D u v) (k : ∀ fv rs fv2 rs2, u = .pointer none → v = .pointer none → Hq m M [] [dkA rb fv rs D, rkA rb2 fv2 rs2 D] → G) : G := by
  obtain ⟨h1, h2, fv, rs, fv2, rs2, H⟩ := h
  exact k fv rs fv2 rs2 h1 h2 H
theorem PlSt.someE {G : Prop} {W : Wl} {u v : Value} (h : PlSt m M rb rb2 (some W) D u v) (k : ∀ wb wb2 fv rs fv2 rs2, u = lpD wb → v = lpD wb2 → Hq m M [] [wlA wb rb fv rs W D, rwA wb2 rb2 fv2 rs2 W D] → G) : G := by
  obtain ⟨wb, wb2, fv, rs, fv2, rs2, h1, h2, H⟩ := h
  exact k wb wb2 fv rs fv2 rs2 h1 h2 H
theorem WlR.E {G : Prop} {W : Wl} {V u : Value} {A : As} (h : WlR wb rb W D V u A) (k : ∀ fv rs, u = V → A = wlA wb rb fv rs W D → G) : G := by
  obtain ⟨h1, fv, rs, h2⟩ := h
  exact k fv rs h1 h2
theorem RwR.E {G : Prop} {W : Wl} {V u : Value} {A : As} (h : RwR wb rb W D V u A) (k : ∀ fv rs, u = V → A = rwA wb rb fv rs W D → G) : G := by
  obtain ⟨h1, fv, rs, h2⟩ := h
  exact k fv rs h1 h2
theorem DkR.E {G : Prop} {V u : Value} {A : As} (h : DkR rb D V u A) (k : ∀ fv rs, u = V → A = dkA rb fv rs D → G) : G := by
  obtain ⟨h1, fv, rs, h2⟩ := h
  exact k fv rs h1 h2
theorem RkR.E {G : Prop} {V u : Value} {A : As} (h : RkR rb D V u A) (k : ∀ fv rs, u = V → A = rkA rb fv rs D → G) : G := by
  obtain ⟨h1, fv, rs, h2⟩ := h
  exact k fv rs h1 h2
abbrev plT : NC := .seq (.seq law10_WalPlays_r32 (.cond (.slot 164) (.seq law10_WalPlays_r33 .ret) .skip)) (.seq law10_WalPlays_r34 (.cond (.slot 166) (.seq law10_WalPlays_r35 (.seq law10_WalPlays_r36 (.cond (.slot 185) (.seq law10_WalPlays_r37 .ret) .skip))) .skip))
theorem np_t (b : Nat) : rd (.eqp true) [.pointer (some ⟨b, 0, none⟩), .pointer none] m = some (.bool true) := rfl
theorem np_f (b : Nat) : rd (.eqp false) [.pointer (some ⟨b, 0, none⟩), .pointer none] m = some (.bool false) := rfl
theorem nn_t : rd (.eqp true) [.pointer none, .pointer none] m = some (.bool false) := rfl
theorem nn_f : rd (.eqp false) [.pointer none, .pointer none] m = some (.bool true) := rfl
set_option maxHeartbeats 8000000 in
theorem plays_tail {E : Env} {Q : Exit → Env → Mem → Prop} {q i : Nat} {Wo : Option Wl} {u v ka ki : Value} (hq : q ≤ 60000) (hi : i ≤ 26) (hP : PlI q i D) (hS : PlSt m M rb rb2 Wo D u v)
    (e1 : E.get 1 = ka) (e6 : E.get 6 = lpD rb) (e8 : E.get 8 = lpD rb2) (e10 : E.get 10 = u) (e13 : E.get 13 = v) (e16 : E.get 16 = ki) (h1 : E.has 1 = true) (h6 : E.has 6 = true) (h8 : E.has 8 = true) (h10 : E.has 10 = true) (h13 : E.has 13 = true) (h16 : E.has 16 = true)
    (K : ∀ M E', E'.get 1 = ka → E'.get 6 = lpD rb → E'.get 8 = lpD rb2 → E'.get 10 = u → E'.get 13 = v → E'.get 16 = ki → E'.has 1 = true → E'.has 6 = true → E'.has 8 = true → E'.has 10 = true → E'.has 13 = true → E'.has 16 = true → PlSt m M rb rb2 Wo D u v → Q .normal E' M) :
    wpN Tryz.prog plT Q E M := by
  have htt := hP.tt
  have hln := hP.len hi
  cases Wo with
  | some W =>
    obtain ⟨wb, wb2, fv, rs, fv2, rs2, rfl, rfl, H⟩ := hS
    have hd : (dkA rb fv rs D).p M := (H.at 0 rfl).2.1
    have hr : (rkA rb2 fv2 rs2 D).p M := (H.at 1 rfl).2.1
    simp (disch := omega) only [go_sem, undef, e1, e6, e8, e10, e13, e16, h1, h6, h8, h10, h13, h16]
    refine callQ H (alike_s hd hr hP.srt hP.srt rfl (by omega) (by omega) (by omega)) fun M f H => ?_
    have hw : M wb = some (.cells (wlC rb W).toArray T_wal (0, 0)) := (Hq.split (A := wcA wb rb W) H).cs.1
    simp (disch := omega) only [go_sem, undef, e1, e6, e8, e10, e13, e16, Bool.not_true, np_t]
    refine callQ H (where_s hw) fun M f H => ?_
    have hw2 : M wb2 = some (.cells (wlC rb2 W).toArray T_ref8_Wal (0, 0)) := (Hq.split (A := rwcA wb2 rb2 W) (H.perm (List.Perm.swap ..))).cs.1
    simp (disch := omega) only [go_sem, undef, e1, e6, e8, e10, e13, e16, hw2, wlC, dec_f (show ¬ ((W.g : Nat) : Int) ≠ (W.g : Nat) by simp), dec_f (show ¬ ((W.k : Nat) : Int) ≠ (W.k : Nat) by simp)]
    exact K _ _ rfl rfl rfl rfl rfl rfl rfl rfl rfl rfl rfl rfl ⟨_, _, _, _, _, _, rfl, rfl, H⟩
  | none =>
    obtain ⟨rfl, rfl, fv, rs, fv2, rs2, H⟩ := hS
    simp (disch := omega) only [go_sem, undef, e1, e6, e8, e10, e13, e16, h1, h6, h8, h10, h13, h16]
    refine callQ H (alike_s (H.at 0 rfl) (H.at 1 rfl) hP.srt hP.srt rfl (by omega) (by omega) (by omega)) fun M f H => ?_
    simp (disch := omega) only [go_sem, undef, e1, e6, e8, e10, e13, e16, Bool.not_true, nn_t]
    exact K _ _ rfl rfl rfl rfl rfl rfl rfl rfl rfl rfl rfl rfl ⟨rfl, rfl, _, _, _, _, H⟩
theorem open_p {q i : Nat} (h : (dkA rb fv rs D).p m) (hP : PlI q i D) (hi : i ≤ 26) (hq : q ≤ 60000) : CM Tryz.prog n_wal_Open [lpD rb] m (dkA rb fv rs D) (OpR rb (opF D)) :=
  open_s h (hP.pl hi) (hP.n99 hi) (by have := hP.len hi; omega) (by have := hP.tt; omega) hP.lf fun f hf => by have := hP.kb f hf; omega
theorem open_r {q i : Nat} (h : (rkA rb fv rs D).p m) (hP : PlI q i D) (hi : i ≤ 26) (hq : q ≤ 60000) : CM Tryz.prog n_ref8_Open [lpD rb] m (rkA rb fv rs D) (ROpR rb (opF D)) :=
  ropen_s h (hP.nmo hi) (hP.nml hi) hP.srt (hP.n99 hi) (by have := hP.len hi; omega) (by have := hP.tt; omega) hP.lf fun f hf => by have := hP.kb f hf; omega
theorem plays_l0 : law10_WalPlays_l0 = .seq (.seq law10_WalPlays_r9 (.cond (.slot 67) .skip (.exit 0))) (.seq (.block 1 (.seq law10_WalPlays_r10 (.seq (.seq law10_WalPlays_r11 (.cond (.slot 76) (.exit 1) .skip)) (.seq (.seq law10_WalPlays_r12 (.block 2 (.seq law10_WalPlays_r13 (.cond (.slot 79) (.seq law10_WalPlays_r14 (.cond (.slot 93) (.seq law10_WalPlays_r15 .ret) .skip)) (.seq law10_WalPlays_r16 (.cond (.slot 94) (.seq law10_WalPlays_r17 (.cond (.slot 108) (.seq law10_WalPlays_r18 .ret) .skip)) (.seq law10_WalPlays_r19 (.cond (.slot 109) (.seq law10_WalPlays_r20 law10_WalPlays_r21) (.seq (.seq law10_WalPlays_r22 (.cond (.slot 119) .skip law10_WalPlays_r23)) (.cond (.slot 119) (.seq (.seq law10_WalPlays_r24 (.cond (.slot 124) (.seq law10_WalPlays_r25 law10_WalPlays_r26) .skip)) (.seq law10_WalPlays_r27 (.seq law10_WalPlays_r28 (.seq law10_WalPlays_r29 (.seq law10_WalPlays_r30 (.cond (.slot 160) (.seq law10_WalPlays_r31 .ret) .skip)))))) .skip)))))))))) plT)))) law10_WalPlays_r38) := rfl
theorem plays_code : law10_WalPlays_c = .seq law10_WalPlays_r0 (.seq law10_WalPlays_r1 (.seq law10_WalPlays_r2 (.seq law10_WalPlays_r3 (.seq law10_WalPlays_r4 (.seq law10_WalPlays_r5 (.seq (.seq law10_WalPlays_r6 (.cond (.slot 59) (.seq law10_WalPlays_r7 .ret) .skip)) (.seq (.seq law10_WalPlays_r8 (.block 0 (.loop [1, 6, 8, 10, 13, 16] law10_WalPlays_l0))) (.seq law10_WalPlays_r39 .ret)))))))) := rfl
set_option maxHeartbeats 32000000 in
theorem walPlays_s {v : Value} {ak : List AkV} (q0 : Int) (hq0 : R64i q0) (hv : RdS 4 akE m v ak) (hA : ∀ a ∈ ak, AkOk m a) (hn : ak.length ≤ 9223372036854775807) :
    MC Tryz.prog n_law10_WalPlays [.int .i64 q0, v] m fun u M => u = .bool true ∧ Fr m M [] := by
  obtain ⟨av, cv, rfl⟩ := hv.form
  refine law10_WalPlays_go (by simp [Tryz.f33]) ?_
  rw [plays_code, plays_l0]
  generalize hT : plT = T
  have H := Hq.refl m []
  simp (disch := omega) only [go_sem, undef]
  refine callR H (within_s q0 0 60000 (by omega) hq0 (by omega) (by omega)) fun u M hR f H => ?_
  refine Exists.elim hR fun r hr => ?_
  have eu := hr.1
  have hr1 := hr.2.1
  have hr2 := hr.2.2
  subst eu
  clear hr hR
  refine Exists.elim (⟨r.toNat, by omega⟩ : ∃ q : Nat, r = (q : Int)) fun q hq => ?_
  subst hq
  have hq : q ≤ 60000 := by omega
  simp (disch := omega) only [go_sem, undef]
  refine callN H (disk_New_s q (by omega)) fun u M A' hR f H => ?_
  refine Exists.elim hR fun rb hh => ?_
  have eu := hh.1
  have eA := hh.2
  subst eu eA
  clear hh hR
  simp (disch := omega) only [go_sem, undef]
  refine callN H (rnew_s q (by omega)) fun u M A' hR f H => ?_
  refine Exists.elim hR fun rb2 hh => ?_
  have eu := hh.1
  have eA := hh.2
  subst eu eA
  clear hh hR
  have hP0 : PlI q 0 ⟨q, [], false, false, 0⟩ := ⟨List.Pairwise.nil, by simp, by simp [tot], by simp, rfl, by simp⟩
  have hO := opF_nil (D := ⟨q, [], false, false, 0⟩) rfl
  have hop := open_p (H.at 1 rfl) hP0 (by omega) hq
  rw [hO] at hop
  simp (disch := omega) only [go_sem, undef]
  refine callA1 H hop fun u M A' hR f H => ?_
  refine Exists.elim hR fun wb hh => Exists.elim hh fun w0 hh => Exists.elim hh fun vs0 hh => Exists.elim hh fun fv hh => Exists.elim hh fun rs hh => ?_
  have eu := hh.1
  have eA := hh.2
  subst eu eA
  clear hh hR hop
  have H := (H.perm (List.Perm.swap ..)).split.tail
  have hop := open_r (H.at 1 rfl) hP0 (by omega) hq
  rw [hO] at hop
  simp (disch := omega) only [go_sem, undef]
  refine callA1 H hop fun u M A' hR f H => ?_
  refine Exists.elim hR fun wb2 hh => Exists.elim hh fun w2 hh => Exists.elim hh fun vs2 hh => Exists.elim hh fun fv2 hh => Exists.elim hh fun rs2 hh => ?_
  have eu := hh.1
  have eA := hh.2
  subst eu eA
  clear hh hR hop
  have H := (H.perm (List.Perm.swap ..)).split.tail.perm (List.Perm.swap ..)
  simp (disch := omega) only [go_sem, undef, np_f]
  refine loopQ_intro (fun k E m' => ∃ (i : Nat) (D : Dk) (Wo : Option Wl) (u v : Value), i ≤ ak.length ∧ i ≤ 25 ∧ k = ak.length - i ∧ PlI q i D ∧ (∀ W, Wo = some W → PW i W) ∧ E = [(1, .slice av ak.length cv), (6, lpD rb), (8, lpD rb2), (10, u), (13, v), (16, .int .i64 (i : Nat))] ∧ PlSt m m' rb rb2 Wo D u v) ak.length rfl
    ⟨0, _, some ⟨0, 0, false⟩, lpD wb, lpD wb2, by omega, by omega, by omega, hP0, fun W hW => by cases hW; exact ⟨Nat.zero_le _, Nat.zero_le _, .inl rfl⟩, rfl, ⟨_, _, _, _, _, _, rfl, rfl, H⟩⟩ ?_
  clear H f hP0 hO
  rintro k E M1 ⟨i, D, Wo, u, v, hi1, hi2, rfl, hP, hW, rfl, hS⟩
  by_cases hend : i < ak.length ∧ i < 25
  rotate_left
  · have hfin : ∀ M, Hq m M [] [] → Fr m M [] := fun M H => H.fr
    have H : Hq m M1 [] [] := by
      cases Wo with
      | some W =>
        obtain ⟨_, _, _, _, _, _, _, _, H⟩ := hS
        exact H.tail.tail
      | none =>
        obtain ⟨_, _, _, _, _, _, H⟩ := hS
        exact H.tail.tail
    by_cases h1 : i < ak.length
    · simp (disch := omega) only [go_sem, undef, dec_t (show ((i : Nat) : Int) < (ak.length : Nat) by omega), dec_f (show ¬ ((i : Nat) : Int) < 25 by omega)]
      refine callQ H walRuns_s fun M f3 H => ?_
      simp (disch := omega) only [go_sem, undef]
      exact ⟨rfl, H.fr⟩
    · simp (disch := omega) only [go_sem, undef, dec_f (show ¬ ((i : Nat) : Int) < (ak.length : Nat) by omega)]
      refine callQ H walRuns_s fun M f3 H => ?_
      simp (disch := omega) only [go_sem, undef]
      exact ⟨rfl, H.fr⟩
  obtain ⟨h1, h2⟩ := hend
  have hfr : Fr m M1 [] := by
    cases Wo with
    | some W =>
      obtain ⟨_, _, _, _, _, _, _, _, H⟩ := hS
      exact H.fr
    | none =>
      obtain ⟨_, _, _, _, _, _, H⟩ := hS
      exact H.fr
  refine Exists.elim hS.toL fun L0 hh => ?_
  have H := hh.1
  have hL := hh.2
  clear hh hS
  refine RdS.elK (hv.frame hfr) h1 (by decide) fun bx o x hx hix hE => ?_
  have hok := hA x (List.mem_of_getElem? hx)
  refine Exists.elim hok.rv.form fun ra hh => Exists.elim hh fun rc erv => ?_
  refine Exists.elim hok.pv.form fun pa hh => Exists.elim hh fun pcc epv => ?_
  clear hh hx
  obtain ⟨xk, xn, xrv, xpv, xvs, xls, xps⟩ := x
  simp only at erv epv
  subst erv
  subst epv
  have hlda := hE.lda0 4 (by decide) (by decide)
  have hlda : ldaO (M1 bx) o 4 = some (.agg #[.int .i64 xk, .int .i64 xn, .slice ra xvs.length rc, .slice pa xps.length pcc]) := hlda
  simp (disch := omega) only [go_sem, undef, dec_t (show ((i : Nat) : Int) < (ak.length : Nat) by omega), dec_t (show ((i : Nat) : Int) < 25 by omega), hix, hlda]
  refine newQ H fun b M f1 H => ?_
  simp (disch := omega) only [go_sem, undef]
  refine stwQ0 H rfl rfl fun M f2 H => ?_
  have hb := H.cs.1
  have hlb : ldaO (M b) 0 4 = some (.agg #[.int .i64 xk, .int .i64 xn, .slice ra xvs.length rc, .slice pa xps.length pcc]) := by rw [hb]; rfl
  simp (disch := omega) only [go_sem, undef, hb, hlb]
  refine callR H (light_s (hok.frame H.fr)) fun u M hR f H => ?_
  refine Exists.elim hR fun bb hh => ?_
  have eu := hh.1
  have hl3 := hh.2
  subst eu
  clear hh hR hlda hlb
  cases bb with
  | false =>
    simp (disch := omega) only [go_sem, undef, Bool.not_false]
    exact handN_intro (ak.length - (i + 1)) (by omega) ⟨i + 1, D, Wo, u, v, by omega, by omega, rfl, hP.mono (Nat.le_succ i), fun W h => (hW W h).mono (Nat.le_succ i), rfl, hL.back H.tail⟩
  | true =>
    have hl7 := hl3 rfl
    have hl4 : xvs.length ≤ 9000 := hl7.1
    have hl5 : xls.flatten.length ≤ 9000 := hl7.2.1
    have hl6 : xps.length ≤ 20 := hl7.2.2
    clear hl3 hl7
    have hb := H.cs.1
    by_cases hk1 : xk = 1
    · skip
      cases Wo with
      | none =>
        refine hL.noneE fun fv rs fv2 rs2 eu ev eL => ?_
        subst eu ev eL
        have H := H.tail
        simp (disch := omega) only [go_sem, undef, Bool.not_true, hb, dec_t hk1, nn_t]
        subst hT
        exact plays_tail (Wo := none) hq (show i + 1 ≤ 26 by omega) (hP.mono (Nat.le_succ i)) (⟨rfl, rfl, _, _, _, _, H⟩) rfl rfl rfl rfl rfl rfl rfl rfl rfl rfl rfl rfl fun M E' g1 g6 g8 g10 g13 g16 k1 k6 k8 k10 k13 k16 hS => by
          simp (disch := omega) only [go_sem, undef, g1, g6, g8, g10, g13, g16, k1, k6, k8, k10, k13, k16]
          exact handN_intro (ak.length - (i + 1)) (by omega) ⟨i + 1, _, none, _, _, by omega, by omega, rfl, hP.mono (Nat.le_succ i), (fun W h => by cases h), rfl, hS⟩
      | some W =>
        refine hL.someE fun wb wb2 fv rs fv2 rs2 eu ev eL => ?_
        subst eu ev eL
        have hw := hW W rfl
        have hwg := hw.g
        have hwk := hw.k
        have hln := hP.len (show i ≤ 26 by omega)
        have htt := hP.tt
        have hqt := hP.qt
        have hpl := pl_add hP hw xls
        have hF := F2_imp hok.vs fun _ _ _ h => h.frame H.fr
        have hrv := hok.rv.frame H.fr
        have hadd := fun M (h : (wlA wb rb fv rs W D).p M) (hrv : RdS 1 v1 M (.slice ra xvs.length rc) xvs) (hF : F2 (fun v l => RdB M v l) xvs xls) => add_a h (by omega) (by omega) hrv hF (by omega) (by omega) (by omega) hP.lf (by omega) (by omega)
        have hradd := fun M (h : (rwA wb2 rb2 fv2 rs2 W D).p M) (hrv : RdS 1 v1 M (.slice ra xvs.length rc) xvs) (hF : F2 (fun v l => RdB M v l) xvs xls) => radd_s h (by omega) (by omega) hrv hF (by omega) (by omega) hP.srt (by omega) hP.lf (by omega) (by omega)
        simp (disch := omega) only [go_sem, undef, Bool.not_true, hb, dec_t hk1, np_t]
        refine callA1 H (hadd _ (H.at 1 rfl) hrv hF) fun u M A' hR f H => ?_
        refine WlR.E hR fun fv3 rs3 eu eA => ?_
        subst eu eA
        have hb := H.cs.1
        simp (disch := omega) only [go_sem, undef, hb]
        refine callA2 H (hradd _ (H.at 2 rfl) (hok.rv.frame H.fr) (F2_imp hok.vs fun _ _ _ h => h.frame H.fr)) fun u M A' hR f H => ?_
        refine RwR.E hR fun fv4 rs4 eu eA => ?_
        subst eu eA
        simp (disch := omega) only [go_sem, undef, dec_f (show ¬ (((addX xls W D).2.2 : Nat) : Int) ≠ ((addX xls W D).2.2 : Nat) by simp)]
        have H := H.tail
        subst hT
        exact plays_tail (Wo := (some (addX xls W D).1)) hq (show i + 1 ≤ 26 by omega) (hpl.1) (⟨_, _, _, _, _, _, rfl, rfl, H⟩) rfl rfl rfl rfl rfl rfl rfl rfl rfl rfl rfl rfl fun M E' g1 g6 g8 g10 g13 g16 k1 k6 k8 k10 k13 k16 hS => by
          simp (disch := omega) only [go_sem, undef, g1, g6, g8, g10, g13, g16, k1, k6, k8, k10, k13, k16]
          exact handN_intro (ak.length - (i + 1)) (by omega) ⟨i + 1, _, (some (addX xls W D).1), _, _, by omega, by omega, rfl, hpl.1, (fun W h => by cases h; exact hpl.2), rfl, hS⟩
    by_cases hk2 : xk = 2
    · skip
      cases Wo with
      | none =>
        refine hL.noneE fun fv rs fv2 rs2 eu ev eL => ?_
        subst eu ev eL
        have H := H.tail
        simp (disch := omega) only [go_sem, undef, Bool.not_true, hb, dec_f hk1, dec_t hk2, nn_t]
        subst hT
        exact plays_tail (Wo := none) hq (show i + 1 ≤ 26 by omega) (hP.mono (Nat.le_succ i)) (⟨rfl, rfl, _, _, _, _, H⟩) rfl rfl rfl rfl rfl rfl rfl rfl rfl rfl rfl rfl fun M E' g1 g6 g8 g10 g13 g16 k1 k6 k8 k10 k13 k16 hS => by
          simp (disch := omega) only [go_sem, undef, g1, g6, g8, g10, g13, g16, k1, k6, k8, k10, k13, k16]
          exact handN_intro (ak.length - (i + 1)) (by omega) ⟨i + 1, _, none, _, _, by omega, by omega, rfl, hP.mono (Nat.le_succ i), (fun W h => by cases h), rfl, hS⟩
      | some W =>
        refine hL.someE fun wb wb2 fv rs fv2 rs2 eu ev eL => ?_
        subst eu ev eL
        have hw := hW W rfl
        have hwg := hw.g
        have hwk := hw.k
        have hln := hP.len (show i ≤ 26 by omega)
        have htt := hP.tt
        have hqt := hP.qt
        have hpl := pl_anew hP hw xls
        have hF := F2_imp hok.vs fun _ _ _ h => h.frame H.fr
        have hrv := hok.rv.frame H.fr
        have hadd := fun M (h : (wlA wb rb fv rs W D).p M) (hrv : RdS 1 v1 M (.slice ra xvs.length rc) xvs) (hF : F2 (fun v l => RdB M v l) xvs xls) => anew_a h (by omega) (by omega) hrv hF (by omega) (by omega) (by omega) hP.lf (by omega) (by omega)
        have hradd := fun M (h : (rwA wb2 rb2 fv2 rs2 W D).p M) (hrv : RdS 1 v1 M (.slice ra xvs.length rc) xvs) (hF : F2 (fun v l => RdB M v l) xvs xls) => ranew_s h (by omega) (by omega) hrv hF (by omega) (by omega) hP.srt (by omega) hP.lf (by omega) (by omega)
        simp (disch := omega) only [go_sem, undef, Bool.not_true, hb, dec_f hk1, dec_t hk2, np_t]
        refine callA1 H (hadd _ (H.at 1 rfl) hrv hF) fun u M A' hR f H => ?_
        refine WlR.E hR fun fv3 rs3 eu eA => ?_
        subst eu eA
        have hb := H.cs.1
        simp (disch := omega) only [go_sem, undef, hb]
        refine callA2 H (hradd _ (H.at 2 rfl) (hok.rv.frame H.fr) (F2_imp hok.vs fun _ _ _ h => h.frame H.fr)) fun u M A' hR f H => ?_
        refine RwR.E hR fun fv4 rs4 eu eA => ?_
        subst eu eA
        simp (disch := omega) only [go_sem, undef, dec_f (show ¬ (((anewX xls W D).2.2 : Nat) : Int) ≠ ((anewX xls W D).2.2 : Nat) by simp)]
        have H := H.tail
        subst hT
        exact plays_tail (Wo := (some (anewX xls W D).1)) hq (show i + 1 ≤ 26 by omega) (hpl.1) (⟨_, _, _, _, _, _, rfl, rfl, H⟩) rfl rfl rfl rfl rfl rfl rfl rfl rfl rfl rfl rfl fun M E' g1 g6 g8 g10 g13 g16 k1 k6 k8 k10 k13 k16 hS => by
          simp (disch := omega) only [go_sem, undef, g1, g6, g8, g10, g13, g16, k1, k6, k8, k10, k13, k16]
          exact handN_intro (ak.length - (i + 1)) (by omega) ⟨i + 1, _, (some (anewX xls W D).1), _, _, by omega, by omega, rfl, hpl.1, (fun W h => by cases h; exact hpl.2), rfl, hS⟩
    by_cases hk4 : xk = 4
    · skip
      have hPA : PlI q i ⟨D.quota, D.fl, D.off, decide (0 ≤ xn), xn.toNat⟩ := ⟨hP.srt, hP.nm, hP.tt, hP.kp, hP.qt, by have h7 : xn ≤ 9223372036854775807 := hok.n.2; show xn.toNat ≤ 9223372036854775807; omega⟩
      have hPA := hPA.mono (Nat.le_succ i)
      have hxn := hok.n
      cases Wo with
      | none =>
        refine hL.noneE fun fv rs fv2 rs2 eu ev eL => ?_
        subst eu ev eL
        simp (disch := omega) only [go_sem, undef, Bool.not_true, hb, dec_f hk1, dec_f hk2, dec_t hk4]
        refine callA1 H (arm_any (H.at 1 rfl) xn hxn) fun u M A' hR f H => ?_
        refine hR.E fun fv3 rs3 eu eA => ?_
        subst eu eA
        have hb := H.cs.1
        simp (disch := omega) only [go_sem, undef, hb]
        refine callA2 H (rarm_s (H.at 2 rfl) xn hxn) fun u M A' hR f H => ?_
        refine hR.E fun fv4 rs4 eu eA => ?_
        subst eu eA
        have H := H.tail
        simp (disch := omega) only [go_sem, undef]
        subst hT
        exact plays_tail (Wo := none) hq (show i + 1 ≤ 26 by omega) (hPA) (⟨rfl, rfl, _, _, _, _, H⟩) rfl rfl rfl rfl rfl rfl rfl rfl rfl rfl rfl rfl fun M E' g1 g6 g8 g10 g13 g16 k1 k6 k8 k10 k13 k16 hS => by
          simp (disch := omega) only [go_sem, undef, g1, g6, g8, g10, g13, g16, k1, k6, k8, k10, k13, k16]
          exact handN_intro (ak.length - (i + 1)) (by omega) ⟨i + 1, _, none, _, _, by omega, by omega, rfl, hPA, (fun W h => by cases h), rfl, hS⟩
      | some W =>
        refine hL.someE fun wb wb2 fv rs fv2 rs2 eu ev eL => ?_
        subst eu ev eL
        have hwm := (hW W rfl).mono (Nat.le_succ i)
        have H : Hq m M [] [wlA wb rb fv rs W D, _, rwA wb2 rb2 fv2 rs2 W D] := H.front 1 (by simp)
        have H : Hq m M [] [rwA wb2 rb2 fv2 rs2 W D, wcA wb rb W, dkA rb fv rs D, _] := (Hq.split (A := wcA wb rb W) H).front 3 (by simp)
        have H : Hq m M [] [cellA b (.cells [Value.int .i64 xk, .int .i64 xn, .slice ra xvs.length rc, .slice pa xps.length pcc].toArray 33 (0, 0)), rwcA wb2 rb2 W, rkA rb2 fv2 rs2 D, wcA wb rb W, dkA rb fv rs D] := (Hq.split (A := rwcA wb2 rb2 W) H).front 4 (by simp)
        have hb := H.cs.1
        simp (disch := omega) only [go_sem, undef, Bool.not_true, hb, dec_f hk1, dec_f hk2, dec_t hk4]
        refine callA4 H (arm_any (H.at 4 rfl) xn hxn) fun u M A' hR f H => ?_
        refine hR.E fun fv3 rs3 eu eA => ?_
        subst eu eA
        have hb := H.cs.1
        simp (disch := omega) only [go_sem, undef, hb]
        refine callA2 H (rarm_s (H.at 2 rfl) xn hxn) fun u M A' hR f H => ?_
        refine hR.E fun fv4 rs4 eu eA => ?_
        subst eu eA
        have H : Hq m M [] [rwA wb2 rb2 fv4 rs4 W ⟨D.quota, D.fl, D.off, decide (0 ≤ xn), xn.toNat⟩, wcA wb rb W, dkA rb fv3 rs3 ⟨D.quota, D.fl, D.off, decide (0 ≤ xn), xn.toNat⟩] := Hq.join (A := rwcA wb2 rb2 W) H.tail
        have H : Hq m M [] [wlA wb rb fv3 rs3 W ⟨D.quota, D.fl, D.off, decide (0 ≤ xn), xn.toNat⟩, rwA wb2 rb2 fv4 rs4 W ⟨D.quota, D.fl, D.off, decide (0 ≤ xn), xn.toNat⟩] := Hq.join (A := wcA wb rb W) (H.rot3.perm (List.Perm.cons _ (List.Perm.swap ..)))
        simp (disch := omega) only [go_sem, undef]
        subst hT
        exact plays_tail (Wo := some W) hq (show i + 1 ≤ 26 by omega) (hPA) (⟨_, _, _, _, _, _, rfl, rfl, H⟩) rfl rfl rfl rfl rfl rfl rfl rfl rfl rfl rfl rfl fun M E' g1 g6 g8 g10 g13 g16 k1 k6 k8 k10 k13 k16 hS => by
          simp (disch := omega) only [go_sem, undef, g1, g6, g8, g10, g13, g16, k1, k6, k8, k10, k13, k16]
          exact handN_intro (ak.length - (i + 1)) (by omega) ⟨i + 1, _, some W, _, _, by omega, by omega, rfl, hPA, (fun W h => by cases h; exact hwm), rfl, hS⟩
    by_cases hk3 : xk = 3
    · have hk5 : ¬ xk = 5 := by omega
      refine Exists.elim (hL.open H) fun fv hh => Exists.elim hh fun rs hh => Exists.elim hh fun fv2 hh => Exists.elim hh fun rs2 H => ?_
      clear hh
      simp (disch := omega) only [go_sem, undef, Bool.not_true, hb, dec_f hk1, dec_f hk2, dec_f hk4, dec_t hk3, dec_f hk5]
      have H := H.tail
      have hop := fun M fv rs (h : (dkA rb fv rs D).p M) => open_p h hP (show i ≤ 26 by omega) hq
      have hopr := fun M fv rs (h : (rkA rb2 fv rs D).p M) => open_r h hP (show i ≤ 26 by omega) hq
      have hpo := pl_op hP (show i ≤ 26 by omega)
      have hrc := opF_recs hP.tt
      have hre := opF_e (D := D)
      refine Exists.elim (⟨_, rfl⟩ : ∃ res, res = opF D) fun res hres => ?_
      rw [← hres] at hop hopr hpo hrc hre
      refine callA0 H (hop _ _ _ (H.at 0 rfl)) fun u M A' hR f H => ?_
      cases hro : res.1.1 with
      | none =>
        have hrn := hre hro
        refine OpR.noneE hR hro fun fv3 rs3 eu eA => ?_
        subst eu eA
        simp (disch := omega) only [go_sem, undef]
        refine callA1 H (hopr _ _ _ (H.at 1 rfl)) fun u M A' hR f H => ?_
        refine ROpR.noneE hR hro fun fv4 rs4 eu eA => ?_
        subst eu eA
        simp (disch := omega) only [go_sem, undef, dec_f (show ¬ ((res.2.2 : Nat) : Int) ≠ (res.2.2 : Nat) by simp), nn_f, (show (true != true) = false from rfl)]
        refine callQ H (lists_s (l := []) (r := []) (RdS.nil v1_len M) .nil (RdS.nil v1_len M) .nil (by simp) (by simp) (by simp) (by simp)) fun M f H => ?_
        simp (disch := omega) only [go_sem, undef, decide_eq_true (rfl : ([] : List Bs) = []), Bool.not_true]
        subst hT
        exact plays_tail (Wo := none) hq (show i + 1 ≤ 26 by omega) (hpo.1.mono (Nat.le_succ i)) (⟨rfl, rfl, _, _, _, _, H⟩) rfl rfl rfl rfl rfl rfl rfl rfl rfl rfl rfl rfl fun M E' g1 g6 g8 g10 g13 g16 k1 k6 k8 k10 k13 k16 hS => by
          simp (disch := omega) only [go_sem, undef, g1, g6, g8, g10, g13, g16, k1, k6, k8, k10, k13, k16]
          exact handN_intro (ak.length - (i + 1)) (by omega) ⟨i + 1, _, none, _, _, by omega, by omega, rfl, hpo.1.mono (Nat.le_succ i), (fun W h => by cases h), rfl, hS⟩
      | some W =>
        have hwp := (hpo.2 W hro).mono (Nat.le_succ i)
        refine OpR.someE hR hro fun wb3 w3 vs3 fv3 rs3 eu eA => ?_
        subst eu eA
        have H := H.split
        simp (disch := omega) only [go_sem, undef]
        refine callA2 H (hopr _ _ _ (H.at 2 rfl)) fun u M A' hR f H => ?_
        refine ROpR.someE hR hro fun wb4 w4 vs4 fv4 rs4 eu eA => ?_
        subst eu eA
        have H : Hq m M [] [rbA w4 vs4 res.1.2, rwA wb4 rb2 fv4 rs4 W res.2.1, rbA w3 vs3 res.1.2, wlA wb3 rb fv3 rs3 W res.2.1] := Hq.split (H.rot3' : Hq m M [] [starA (rbA w4 vs4 res.1.2) (rwA wb4 rb2 fv4 rs4 W res.2.1), rbA w3 vs3 res.1.2, wlA wb3 rb fv3 rs3 W res.2.1])
        have hp3 := H.at 2 rfl
        have hp4 := H.at 0 rfl
        have hl3 := F2_len hp3.2
        have hl4 := F2_len hp4.2
        have hrl : ∀ p ∈ res.1.2, p.length ≤ 1000000000 := fun p hp => Nat.le_trans (hrc.1 p hp) (by decide)
        have hrcn := hrc.2
        simp (disch := omega) only [go_sem, undef, np_f, (show (false != false) = false from rfl)]
        refine callQ H (lists_s hp3.1.1 (F2_imp hp3.2 fun _ _ _ h => h.1) hp4.1.1 (F2_imp hp4.2 fun _ _ _ h => h.1) hrl hrl (by omega) (by omega)) fun M f H => ?_
        simp (disch := omega) only [go_sem, undef, decide_eq_true (rfl : res.1.2 = res.1.2), Bool.not_true]
        have H : Hq m M [] [rwA wb4 rb2 fv4 rs4 W res.2.1, wlA wb3 rb fv3 rs3 W res.2.1] := H.tail.drop 1
        have H := H.perm (List.Perm.swap ..)
        subst hT
        exact plays_tail (Wo := some W) hq (show i + 1 ≤ 26 by omega) (hpo.1.mono (Nat.le_succ i)) (⟨_, _, _, _, _, _, rfl, rfl, H⟩) rfl rfl rfl rfl rfl rfl rfl rfl rfl rfl rfl rfl fun M E' g1 g6 g8 g10 g13 g16 k1 k6 k8 k10 k13 k16 hS => by
          simp (disch := omega) only [go_sem, undef, g1, g6, g8, g10, g13, g16, k1, k6, k8, k10, k13, k16]
          exact handN_intro (ak.length - (i + 1)) (by omega) ⟨i + 1, _, some W, _, _, by omega, by omega, rfl, hpo.1.mono (Nat.le_succ i), (fun W' h => by cases h; exact hwp), rfl, hS⟩
    by_cases hk5 : xk = 5
    · refine Exists.elim (hL.open H) fun fv hh => Exists.elim hh fun rs hh => Exists.elim hh fun fv2 hh => Exists.elim hh fun rs2 H => ?_
      clear hh
      have hln := hP.len (show i ≤ 26 by omega)
      have htt := hP.tt
      have hps := hok.ps
      have hpv : RdS 1 ic m (.slice pa xps.length pcc) xps := hok.pv
      simp (disch := omega) only [go_sem, undef, Bool.not_true, hb, dec_f hk1, dec_f hk2, dec_f hk4, dec_f hk3, dec_t hk5]
      refine callA1 H (crash_s (H.at 1 rfl) xps (hpv.frame H.fr) hps (fun hne b hb => ⟨fun h => (H.nw _ (by simp) b h).elim (hpv.there (by decide) hne b hb) (by simp), H.fr.some (hpv.there (by decide) hne b hb) (by simp)⟩) (by omega) (by omega) (by omega) hP.kp) fun u M A' hR f H => ?_
      refine hR.E fun fv3 rs3 eu eA => ?_
      subst eu eA
      have hb := H.cs.1
      simp (disch := omega) only [go_sem, undef, hb]
      refine callA2 H (rcrash_s (H.at 2 rfl) xps (hpv.frame H.fr) hps (fun hne b hb => ⟨fun h => (H.nw _ (by simp) b h).elim (hpv.there (by decide) hne b hb) (by simp), H.fr.some (hpv.there (by decide) hne b hb) (by simp)⟩) (by omega) (by omega) (by omega) hP.kp) fun u M A' hR f H => ?_
      refine hR.E fun fv4 rs4 eu eA => ?_
      subst eu eA
      have H := H.tail
      simp (disch := omega) only [go_sem, undef]
      have hPc := pl_crash hP xps
      have hop := fun M fv rs (h : (dkA rb fv rs (crF xps D)).p M) => open_p h hPc (show i ≤ 26 by omega) hq
      have hopr := fun M fv rs (h : (rkA rb2 fv rs (crF xps D)).p M) => open_r h hPc (show i ≤ 26 by omega) hq
      have hpo := pl_op hPc (show i ≤ 26 by omega)
      have hrc := opF_recs hPc.tt
      have hre := opF_e (D := (crF xps D))
      refine Exists.elim (⟨_, rfl⟩ : ∃ res, res = opF (crF xps D)) fun res hres => ?_
      rw [← hres] at hop hopr hpo hrc hre
      refine callA0 H (hop _ _ _ (H.at 0 rfl)) fun u M A' hR f H => ?_
      cases hro : res.1.1 with
      | none =>
        have hrn := hre hro
        refine OpR.noneE hR hro fun fv3 rs3 eu eA => ?_
        subst eu eA
        simp (disch := omega) only [go_sem, undef]
        refine callA1 H (hopr _ _ _ (H.at 1 rfl)) fun u M A' hR f H => ?_
        refine ROpR.noneE hR hro fun fv4 rs4 eu eA => ?_
        subst eu eA
        simp (disch := omega) only [go_sem, undef, dec_f (show ¬ ((res.2.2 : Nat) : Int) ≠ (res.2.2 : Nat) by simp), nn_f, (show (true != true) = false from rfl)]
        refine callQ H (lists_s (l := []) (r := []) (RdS.nil v1_len M) .nil (RdS.nil v1_len M) .nil (by simp) (by simp) (by simp) (by simp)) fun M f H => ?_
        simp (disch := omega) only [go_sem, undef, decide_eq_true (rfl : ([] : List Bs) = []), Bool.not_true]
        subst hT
        exact plays_tail (Wo := none) hq (show i + 1 ≤ 26 by omega) (hpo.1.mono (Nat.le_succ i)) (⟨rfl, rfl, _, _, _, _, H⟩) rfl rfl rfl rfl rfl rfl rfl rfl rfl rfl rfl rfl fun M E' g1 g6 g8 g10 g13 g16 k1 k6 k8 k10 k13 k16 hS => by
          simp (disch := omega) only [go_sem, undef, g1, g6, g8, g10, g13, g16, k1, k6, k8, k10, k13, k16]
          exact handN_intro (ak.length - (i + 1)) (by omega) ⟨i + 1, _, none, _, _, by omega, by omega, rfl, hpo.1.mono (Nat.le_succ i), (fun W h => by cases h), rfl, hS⟩
      | some W =>
        have hwp := (hpo.2 W hro).mono (Nat.le_succ i)
        refine OpR.someE hR hro fun wb3 w3 vs3 fv3 rs3 eu eA => ?_
        subst eu eA
        have H := H.split
        simp (disch := omega) only [go_sem, undef]
        refine callA2 H (hopr _ _ _ (H.at 2 rfl)) fun u M A' hR f H => ?_
        refine ROpR.someE hR hro fun wb4 w4 vs4 fv4 rs4 eu eA => ?_
        subst eu eA
        have H : Hq m M [] [rbA w4 vs4 res.1.2, rwA wb4 rb2 fv4 rs4 W res.2.1, rbA w3 vs3 res.1.2, wlA wb3 rb fv3 rs3 W res.2.1] := Hq.split (H.rot3' : Hq m M [] [starA (rbA w4 vs4 res.1.2) (rwA wb4 rb2 fv4 rs4 W res.2.1), rbA w3 vs3 res.1.2, wlA wb3 rb fv3 rs3 W res.2.1])
        have hp3 := H.at 2 rfl
        have hp4 := H.at 0 rfl
        have hl3 := F2_len hp3.2
        have hl4 := F2_len hp4.2
        have hrl : ∀ p ∈ res.1.2, p.length ≤ 1000000000 := fun p hp => Nat.le_trans (hrc.1 p hp) (by decide)
        have hrcn := hrc.2
        simp (disch := omega) only [go_sem, undef, np_f, (show (false != false) = false from rfl)]
        refine callQ H (lists_s hp3.1.1 (F2_imp hp3.2 fun _ _ _ h => h.1) hp4.1.1 (F2_imp hp4.2 fun _ _ _ h => h.1) hrl hrl (by omega) (by omega)) fun M f H => ?_
        simp (disch := omega) only [go_sem, undef, decide_eq_true (rfl : res.1.2 = res.1.2), Bool.not_true]
        have H : Hq m M [] [rwA wb4 rb2 fv4 rs4 W res.2.1, wlA wb3 rb fv3 rs3 W res.2.1] := H.tail.drop 1
        have H := H.perm (List.Perm.swap ..)
        subst hT
        exact plays_tail (Wo := some W) hq (show i + 1 ≤ 26 by omega) (hpo.1.mono (Nat.le_succ i)) (⟨_, _, _, _, _, _, rfl, rfl, H⟩) rfl rfl rfl rfl rfl rfl rfl rfl rfl rfl rfl rfl fun M E' g1 g6 g8 g10 g13 g16 k1 k6 k8 k10 k13 k16 hS => by
          simp (disch := omega) only [go_sem, undef, g1, g6, g8, g10, g13, g16, k1, k6, k8, k10, k13, k16]
          exact handN_intro (ak.length - (i + 1)) (by omega) ⟨i + 1, _, some W, _, _, by omega, by omega, rfl, hpo.1.mono (Nat.le_succ i), (fun W' h => by cases h; exact hwp), rfl, hS⟩
    · simp (disch := omega) only [go_sem, undef, Bool.not_true, hb, dec_f hk1, dec_f hk2, dec_f hk4, dec_f hk3, dec_f hk5]
      subst hT
      exact plays_tail (Wo := Wo) hq (show i + 1 ≤ 26 by omega) (hP.mono (Nat.le_succ i)) (hL.back H.tail) rfl rfl rfl rfl rfl rfl rfl rfl rfl rfl rfl rfl fun M E' g1 g6 g8 g10 g13 g16 k1 k6 k8 k10 k13 k16 hS => by
        simp (disch := omega) only [go_sem, undef, g1, g6, g8, g10, g13, g16, k1, k6, k8, k10, k13, k16]
        exact handN_intro (ak.length - (i + 1)) (by omega) ⟨i + 1, _, Wo, _, _, by omega, by omega, rfl, hP.mono (Nat.le_succ i), (fun W h => (hW W h).mono (Nat.le_succ i)), rfl, hS⟩
end Go.Fw
namespace Go.Fw
open Go.RowKit Go.ChangeShapes Go.WideShapes
open Go.Proofs
/-! sizes of what comes in -/
theorem wts_all {H : Type} {P : Program} {e : TypeId} : ∀ (l : List (DataW H)) (d : DataW H), d ∈ l → ∀ n ∈ d.weights P e, n ∈ DataW.weightsAll P e l
  | [], d, h, _, _ => by simp at h
  | x :: r, d, h, n, hn => by
    unfold DataW.weightsAll
    rcases List.mem_cons.1 h with rfl | h
    · exact List.mem_append_left _ hn
    · exact List.mem_append_right _ (wts_all r d h n hn)
/-- one row of bytes -/
theorem row_sized {H : Type} {enc : TypeId × Value → H} {P : Program} {W : World} {base : Nat} {held : Bool} {fuel : Nat} {e q : TypeId} {v : Value} {x : DataW H × List MemPlace} (he : P.underlying e = some (.slice q)) (bq : P.bytesOf q = 1)
    (hf : DataW.trod enc P W base (fun _ => true) held fuel e [v] = some x) (hw : ∀ n ∈ x.1.weights P e, n ≤ reachBytes) : ∀ a l c, v = .slice a l c → l ≤ reachBytes := by
  rintro a l c rfl
  rcases Deep.open_slice he hf with ⟨h1, _⟩ | ⟨a', len, cap, m, n, D, Pl, h1, _, _, _, _, h2, _⟩
  · cases h1; exact Nat.zero_le _
  · cases h1
    have := hw ((((List.range l).map D).length + ((List.range (m - l)).map fun j => D (l + j)).length) * P.bytesOf q) (by rw [h2]; simp [DataW.weights, he])
    rw [bq] at this
    simp at this; omega
/-- rows of bytes that came in, none too long -/
theorem byteRows_sized {H : Type} {enc : TypeId × Value → H} {P : Program} {W : World} {base : Nat} {held : Bool} {fuel : Nat} {t e q : TypeId} {cs : List Value} {x : DataW H × List MemPlace} (ht : P.underlying t = some (.slice e)) (he : P.underlying e = some (.slice q)) (hq : P.underlying q = some (.int .u8))
    (ce : P.cellsOf e = 1) (cq : P.cellsOf q = 1) (bq : P.bytesOf q = 1) (hf : DataW.trod enc P W base (fun _ => true) held fuel t cs = some x) (hw : ∀ n ∈ x.1.weights P t, n ≤ reachBytes) :
    ∃ v vs ls, cs = [v] ∧ RdS 1 v1 (absM W) v vs ∧ F2 (fun v l => RdB (absM W) v l) vs ls ∧ vs.length ≤ 9223372036854775807 ∧ ∀ l ∈ ls, l.length ≤ 140737488355328 := by
  obtain ⟨v, vs, ls, rfl, h1, h2, h3, _⟩ := trod_byteRows ht he hq ce cq hf
  refine ⟨v, vs, ls, rfl, h1, h2, h3, fun l hl => ?_⟩
  obtain ⟨i, hi⟩ := List.getElem?_of_mem hl
  have hil := (List.getElem?_eq_some_iff.1 hi).1
  have hvl := F2_len h2
  obtain ⟨a, c, rfl⟩ := h1.form
  refine F2_at h2 (i := i) (by omega) fun v' l' hv' hl' hR => ?_
  rw [hi] at hl'
  cases hl'
  obtain ⟨a3, c3, rfl⟩ := hR.form
  have hrb : reachBytes < 2 ^ 47 := reachBytes_lt
  rcases Deep.open_slice ht hf with ⟨h4, _⟩ | ⟨a', len, cap, m, n, D, Pl, h4, _, hlc, _, hmm, h5, hrows⟩
  · have h4 : vs.length = 0 := by
      have := congrArg (fun l => l) h4
      simp at this; simp [this.2]
    omega
  · have h4 : a = some a' ∧ vs.length = len ∧ c = cap := by simpa using h4
    obtain ⟨rfl, hlen, rfl⟩ := h4
    simp only [if_true] at hmm
    obtain ⟨cs', h6, h7⟩ := hrows i (by omega)
    rw [ce] at h6
    have hc := (World.cells?_some h6)
    have hcell : W.cell? (a'.add (i * 1)) = some (.slice a3 l.length c3) := by
      obtain ⟨_, a0, c0, e0, _, hr⟩ := h1
      cases e0
      have e1 : vs.flatMap v1 = vs := List.flatMap_singleton' _
      rcases hr with hr | ⟨b', o', e2, hr⟩
      · rw [e1] at hr
        have h0 : vs.length = 0 := by rw [hr]; rfl
        omega
      · cases e2
        rw [e1] at hr
        have := hr i _ hv'
        rw [add_mk, ← cell_abs, cell_mk, Nat.mul_one]
        exact this
    have h8 : cs' = [.slice a3 l.length c3] := by
      have h9 : cs'.length = 1 := hc.2.1
      have h10 := hc.2.2 0 (by omega)
      rw [show (a'.add (i * 1)).add 0 = a'.add (i * 1) from by simp [Addr.add], hcell] at h10
      cases cs' with
      | nil => simp at h9
      | cons y r =>
        cases r with
        | nil => simp at h10; rw [h10]
        | cons _ _ => simp at h9
    subst h8
    have hwi : ∀ n ∈ (D i).weights P e, n ≤ reachBytes := fun n hn => by
      refine hw n ?_
      rw [h5]
      show n ∈ DataW.weights P t (.slice _ _)
      unfold DataW.weights
      rw [ht]
      refine List.mem_cons_of_mem _ (List.mem_append_left _ (wts_all _ (D i) (List.mem_map.2 ⟨i, List.mem_range.2 (by omega), rfl⟩) n hn))
    have := row_sized he bq h7 hwi a3 l.length c3 rfl
    omega
/-- rows of any values, one by one, with their sizes -/
theorem open_rowsZ {H : Type} {enc : TypeId × Value → H} {P : Program} {W : World} {base : Nat} {held : Bool} {α : Type} {k : Nat} {en : α → List Value} {ok : α → Prop} {r : Reach} {b0 : Nat} {t e : TypeId} {v : Value} {d : DataW H} {p : List MemPlace} (ht : P.underlying t = some (.slice e)) (hk : ∀ x, (en x).length = k) (ce : P.cellsOf e = k) (k0 : 0 < k) (hdum : Nonempty α)
    (hd : ∀ fuel cs x, DataW.trod enc P W base (fun _ => true) held fuel e cs = some x → (∀ n ∈ x.1.weights P e, n ≤ reachBytes) → ∃ a, cs = en a ∧ ok a)
    (hv : Value.okWide P W r b0 t v) (h : DataW.Trod enc P W base (fun _ => true) held t v d p) (hz : ∀ n ∈ d.weights P t, n ≤ reachBytes) : ∃ l, RdS k en (absM W) v l ∧ (∀ x ∈ l, ok x) ∧ l.length ≤ 9223372036854775807 := by
  obtain ⟨fuel, hf⟩ := h
  obtain ⟨a0, n0, c0, rfl⟩ := okWide_slice ht hv
  have hcs : (Value.slice a0 n0 c0).cells.toList = [.slice a0 n0 c0] := rfl
  rw [hcs] at hf
  rcases Deep.open_slice ht hf with ⟨h1, _⟩ | ⟨a, len, cap, m, n, D, Pl, h1, _, hl, hm, hmm, h2, hrows⟩
  · cases h1
    exact ⟨[], RdS.nil hk _, by simp, by simp⟩
  · cases h1
    have hmm' : n0 ≤ m := by rw [hmm]; split <;> omega
    unfold maxLen at hm
    rw [ce] at hrows
    have h2d : d = .slice ((List.range n0).map D) ((List.range (m - n0)).map fun j => D (n0 + j)) := congrArg (·.1) h2
    have hex : ∀ i : Nat, ∃ x : α, i < n0 → ok x ∧ ∀ j, j < k → W.cell? (a.add (i * k + j)) = (en x)[j]? := by
      intro i
      by_cases hi : i < n0
      · obtain ⟨cs, h2, h3⟩ := hrows i (by omega)
        have hwi : ∀ n ∈ (D i).weights P e, n ≤ reachBytes := fun n hn => by
          refine hz n ?_
          rw [h2d]
          unfold DataW.weights
          rw [ht]
          exact List.mem_cons_of_mem _ (List.mem_append_left _ (wts_all _ (D i) (List.mem_map.2 ⟨i, List.mem_range.2 hi, rfl⟩) n hn))
        obtain ⟨x, rfl, hx⟩ := hd _ _ _ h3 hwi
        refine ⟨x, fun _ => ⟨hx, fun j hj => ?_⟩⟩
        rw [← Deep.add_add]
        exact (World.cells?_some h2).2.2 j hj
      · exact hdum.elim fun x => ⟨x, fun h => absurd h hi⟩
    obtain ⟨C, hC⟩ := Classical.axiomOfChoice hex
    refine ⟨(List.range n0).map C, ⟨hk, some a, c0, by simp, by simpa using hl, ?_⟩, fun x hx => ?_, by simp; omega⟩
    · refine rd1_of (fun h => by cases h) fun a' ha c hc => ?_
      cases ha
      have hlen : (((List.range n0).map C).flatMap en).length = n0 * k := by rw [fm_len hk]; simp
      rw [hlen] at hc
      have hdiv : c / k < n0 := Nat.div_lt_of_lt_mul (by rw [Nat.mul_comm]; exact hc)
      have hmod : c % k < k := Nat.mod_lt _ k0
      have hcc : c / k * k + c % k = c := by rw [Nat.mul_comm]; exact Nat.div_add_mod c k
      have h1 := fm_get hk ((List.range n0).map C) (c / k) (c % k) (by simpa using hdiv) hmod
      rw [hcc] at h1
      have h2 := (hC (c / k) hdiv).2 (c % k) hmod
      rw [hcc] at h2
      rw [h2, ← List.getElem?_eq_getElem, h1]
      simp
    · obtain ⟨i, hi, rfl⟩ := List.mem_map.1 hx
      exact (hC i (List.mem_range.1 hi)).1
theorem wt_at {H : Type} {P : Program} {ts vt : List TypeId} {ds gs : List (DataW H)} {j : Nat} {t : TypeId} {d : DataW H} (h : (DataW.weightsEach P (ts ++ vt) (ds ++ gs)).all (· ≤ reachBytes) = true) (ht : ts[j]? = some t) (hd : ds[j]? = some d) : ∀ n ∈ d.weights P t, n ≤ reachBytes := fun n hn => by
  have h1 := (List.getElem?_eq_some_iff.1 ht).1
  have h2 := (List.getElem?_eq_some_iff.1 hd).1
  have := List.all_eq_true.1 h n (DataW.weights_mem_each (j := j) (t := t) (d := d) (by rw [List.getElem?_append_left h1]; exact ht) (by rw [List.getElem?_append_left h2]; exact hd) n hn)
  simpa using this
/-- the calls of the law that came in -/
theorem trod_ask {H : Type} {enc : TypeId × Value → H} {W : World} {base : Nat} {held : Bool} {fuel : Nat} {cs : List Value} {x : DataW H × List MemPlace} (hf : DataW.trod enc Tryz.prog W base (fun _ => true) held fuel 33 cs = some x) (hz : ∀ n ∈ x.1.weights Tryz.prog 33, n ≤ reachBytes) : ∃ a, cs = akE a ∧ AkOk (absM W) a := by
  obtain ⟨xs, n, _, hxe, hlen, hxs, hg⟩ := DataW.trod_struct Tryz.underlying33 hf
  have hlen : cs.length = 4 := hlen.trans (by kernel_rfl)
  have hxs : xs.length = 4 := hxs
  obtain ⟨c0, c1, c2, c3, rfl⟩ : ∃ c0 c1 c2 c3, cs = [c0, c1, c2, c3] := by
    rcases cs with _ | ⟨c0, _ | ⟨c1, _ | ⟨c2, _ | ⟨c3, _ | ⟨c4, r⟩⟩⟩⟩⟩ <;> simp at hlen
    exact ⟨_, _, _, _, rfl⟩
  obtain ⟨x0, x1, x2, x3, rfl⟩ : ∃ c0 c1 c2 c3, xs = [c0, c1, c2, c3] := by
    rcases xs with _ | ⟨c0, _ | ⟨c1, _ | ⟨c2, _ | ⟨c3, _ | ⟨c4, r⟩⟩⟩⟩⟩ <;> simp at hxs
    exact ⟨_, _, _, _, rfl⟩
  have hz2 : ∀ n ∈ x2.1.weights Tryz.prog 22, n ≤ reachBytes := fun n hn => by
    refine hz n ?_
    rw [hxe]
    show n ∈ DataW.weights Tryz.prog 33 (.agg [x0.1, x1.1, x2.1, x3.1])
    unfold DataW.weights
    rw [Tryz.underlying33]
    exact DataW.weights_mem_each (j := 2) rfl rfl n hn
  have g0 := hg 0 _ rfl
  have g1 := hg 1 _ rfl
  have g2 := hg 2 _ rfl
  have g3 := hg 3 _ rfl
  have e0 : Tryz.prog.cellsOf 3 = 1 := by kernel_rfl
  have e2 : Tryz.prog.cellsOf 22 = 1 := by kernel_rfl
  have e3 : Tryz.prog.cellsOf 23 = 1 := by kernel_rfl
  have g0 : DataW.trod enc Tryz.prog W base (fun _ => true) held n 3 (([c0, c1, c2, c3].drop 0).take (Tryz.prog.cellsOf 3)) = some x0 := g0
  have g1 : DataW.trod enc Tryz.prog W base (fun _ => true) held n 3 (([c0, c1, c2, c3].drop 1).take (Tryz.prog.cellsOf 3)) = some x1 := g1
  have g2 : DataW.trod enc Tryz.prog W base (fun _ => true) held n 22 (([c0, c1, c2, c3].drop 2).take (Tryz.prog.cellsOf 22)) = some x2 := g2
  have g3 : DataW.trod enc Tryz.prog W base (fun _ => true) held n 23 (([c0, c1, c2, c3].drop 3).take (Tryz.prog.cellsOf 23)) = some x3 := g3
  rw [e0] at g0 g1
  rw [e2] at g2
  rw [e3] at g3
  have g0 : DataW.trod enc Tryz.prog W base (fun _ => true) held n 3 [c0] = some x0 := g0
  have g1 : DataW.trod enc Tryz.prog W base (fun _ => true) held n 3 [c1] = some x1 := g1
  have g2 : DataW.trod enc Tryz.prog W base (fun _ => true) held n 22 [c2] = some x2 := g2
  have g3 : DataW.trod enc Tryz.prog W base (fun _ => true) held n 23 [c3] = some x3 := g3
  obtain ⟨k, ek, hk⟩ := trod_int1 Tryz.underlying3 g0
  obtain ⟨n', en, hn⟩ := trod_int1 Tryz.underlying3 g1
  obtain ⟨v, vs, ls, ev, h1, h2, h3, h4⟩ := byteRows_sized Tryz.underlying22 Tryz.underlying37 Tryz.underlying5 (by kernel_rfl) (by kernel_rfl) (by kernel_rfl) g2 hz2
  obtain ⟨pv, ps, ep, h5, h6, h7⟩ := trod_ints Tryz.underlying23 Tryz.underlying3 (by kernel_rfl) g3
  cases ek; cases en; cases ev; cases ep
  exact ⟨⟨k, n', c2, c3, vs, ls, ps⟩, rfl, hk, hn, h1, h2, h3, h4, h5, h6, h7⟩
end Go.Fw
