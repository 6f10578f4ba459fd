import Derived.Test.YtbbiiodadoeflaaGreatDoorRc
import Derived.Test.YtbbiiodadoeflaaGreatDoorRp
import Derived.Test.YtbbiiodadoeflaaGreatDoorWe
import Derived.Test.YtbbiiodadoeflaaGreatDoorWf
import Derived.SizedLaws
set_option linter.unusedVariables false
set_option linter.unusedSimpArgs false
namespace Go.Fw
open Go.Proofs
variable {m m0 M : Mem} {S : List Nat} {L : List As}
variable {rb wb : Nat} {fv : Value} {rs : List Row} {D : Dk}
/-! the program: power for any number of changes, records that may not be -/
end Go.Fw
namespace Go.Fw
open Go.Proofs
variable {m m0 M : Mem} {S : List Nat} {L : List As}
variable {rb wb rb2 : Nat} {fv fv2 : Value} {rs rs2 : List Row} {D D2 : Dk}
theorem RdS.there {α : Type} {k : Nat} {enc : α → List Value} {v : Value} {l : List α} (h : RdS k enc m v l) (k0 : 0 < k) (hl : l ≠ []) : ∀ b ∈ blkOf v, m b ≠ none := by
  obtain ⟨hk, a, c, rfl, hc, hr⟩ := h
  intro b hb
  rcases hr with h0 | ⟨b', o, rfl, h⟩
  · have := fm_len hk l
    rw [h0] at this
    have := List.length_pos_iff.2 hl
    have : 0 < l.length * k := Nat.mul_pos this k0
    simp at *; omega
  · have hb : b = b' := by simpa [blkOf] using hb
    subst hb
    have hlen := fm_len hk l
    have hpos : 0 < (l.flatMap enc).length := by rw [hlen]; exact Nat.mul_pos (List.length_pos_iff.2 hl) k0
    have := h 0 _ (List.getElem?_eq_getElem hpos)
    intro e
    rw [e] at this
    simp [cellAt] at this
/-- a call of the law, as it came in -/
structure AkV where
  kind : Int
  n : Int
  rv : Value
  pv : Value
  vs : List Value
  ls : List Bs
  ps : List Int
def akE (a : AkV) : List Value := [.int .i64 a.kind, .int .i64 a.n, a.rv, a.pv]
structure AkOk (m : Mem) (a : AkV) : Prop where
  kind : R64i a.kind
  n : R64i a.n
  rv : RdS 1 v1 m a.rv a.vs
  vs : F2 (fun v l => RdB m v l) a.vs a.ls
  vl : a.vs.length ≤ 9223372036854775807
  ll : ∀ l ∈ a.ls, l.length ≤ 140737488355328
  pv : RdS 1 ic m a.pv a.ps
  ps : ∀ x ∈ a.ps, R64i x
  pl : a.ps.length ≤ 9223372036854775807
theorem AkOk.frame {a : AkV} (h : AkOk m a) (f : Fr m M []) : AkOk M a := ⟨h.kind, h.n, h.rv.frame f, F2_imp h.vs fun _ _ _ h => h.frame f, h.vl, h.ll, h.pv.frame f, h.ps, h.pl⟩
theorem flat_tk {α : Type} (l : List (List α)) (j : Nat) (y : List α) (hy : l[j]? = some y) : (l.take (j + 1)).flatten.length = (l.take j).flatten.length + y.length := by
  rw [List.take_add_one, hy]; simp
set_option maxHeartbeats 4000000 in
theorem light_s {a : AkV} (h : AkOk m a) : MC Tryz.prog n_law10_light [.agg (akE a).toArray] m fun u M => (∃ b : Bool, u = .bool b ∧ (b = true → a.vs.length ≤ 9000 ∧ a.ls.flatten.length ≤ 9000 ∧ a.ps.length ≤ 20)) ∧ Fr m M [] := by
  obtain ⟨kind, n, rv, pv, vs, ls, ps⟩ := a
  obtain ⟨hk, hn, hrv, hvs, hvl, hll, hpv, hps, hpl⟩ := h
  simp only at *
  have hlen := F2_len hvs
  obtain ⟨ra, rc, rfl⟩ := hrv.form
  obtain ⟨pa, pc', rfl⟩ := hpv.form
  refine law10_light_go (by simp [Tryz.f33]) ?_
  have H := Hq.refl m []
  simp (disch := omega) only [go_sem, undef, akE]
  refine newQ H fun b M f H => ?_
  have hb := H.cs.1
  simp (disch := omega) only [go_sem, undef, hb]
  refine loopQ_intro (fun k E m' => ∃ j, j ≤ vs.length ∧ k = vs.length - j ∧ (ls.take j).flatten.length + j ≤ 9000 ∧ E = [(1, .pointer (some ⟨b, 0, none⟩)), (3, .int .i64 (((ls.take j).flatten.length + j : Nat) : Int)), (4, .int .i64 (j : Nat))] ∧ m' = M) vs.length rfl ⟨0, by omega, by omega, by simp, by rw [List.take_zero]; rfl, rfl⟩ ?_
  rintro k E M1 ⟨j, hj, rfl, hs, rfl, rfl⟩
  by_cases hlt : j < vs.length
  · refine F2_at hvs hlt fun r y hr1 hy hR => ?_
    refine RdS.elK (hrv.frame f) hlt (by decide) fun bx o r' hr' hix hE => ?_
    rw [hr1] at hr'
    cases hr'
    have hyl := hll y (List.mem_of_getElem? hy)
    have hft := flat_tk ls j y hy
    refine Exists.elim hR.form fun a3 hh => Exists.elim hh fun c3 ev => ?_
    subst ev
    simp (disch := omega) only [go_sem, undef, hb, dec_t (show ((j : Nat) : Int) < (vs.length : Nat) by omega), hix, hE.ld0]
    by_cases hbig : (ls.take j).flatten.length + j + y.length + 1 > 9000
    · simp (disch := omega) only [go_sem, undef, dec_t (show (((ls.take j).flatten.length + j : Nat) : Int) + (y.length : Nat) + 1 > 9000 by omega)]
      exact ⟨⟨false, rfl, by intro h; cases h⟩, f⟩
    · simp (disch := omega) only [go_sem, undef, dec_f (show ¬ (((ls.take j).flatten.length + j : Nat) : Int) + (y.length : Nat) + 1 > 9000 by omega)]
      have e : (((ls.take j).flatten.length + j : Nat) : Int) + (y.length : Nat) + 1 = (((ls.take (j + 1)).flatten.length + (j + 1) : Nat) : Int) := by omega
      exact handN_intro (vs.length - (j + 1)) (by omega) ⟨j + 1, by omega, rfl, by omega, by rw [e] <;> rfl, rfl⟩
  · have e : j = vs.length := by omega
    subst e
    rw [hlen, List.take_length] at hs
    simp (disch := omega) only [go_sem, undef, hb, dec_f (show ¬ ((vs.length : Nat) : Int) < (vs.length : Nat) by omega)]
    exact ⟨⟨_, rfl, fun h => ⟨by omega, by omega, by have := of_decide_eq_true h; omega⟩⟩, f⟩
set_option maxHeartbeats 4000000 in
theorem sames_s {v u : Value} {l : List Bs} (hv : (nsA v l).p m) (hu : RdS 1 nmE m u l) (hl : l.length ≤ 1000000000) : MC Tryz.prog n_book_Same_string [v, u] m fun w M => w = .bool true ∧ Fr m M [] := by
  have hv := Own.rds (k := 1) (enc := nmE) (by decide) nmE_len hv
  obtain ⟨a, c, rfl⟩ := hv.form
  obtain ⟨a2, c2, rfl⟩ := hu.form
  refine book_Same_string_go (by simp [Tryz.f33]) ?_
  simp (disch := omega) only [go_sem, undef, dec_f (show ¬ ((l.length : Nat) : Int) ≠ (l.length : Nat) by omega)]
  refine loopQ_intro (fun k E m' => ∃ j, j ≤ l.length ∧ k = l.length - j ∧ E = [(0, .slice a l.length c), (1, .slice a2 l.length c2), (5, .int .i64 (j : Nat))] ∧ m' = m) l.length rfl ⟨0, by omega, by omega, rfl, rfl⟩ ?_
  rintro k E M1 ⟨j, hj, rfl, rfl, rfl⟩
  by_cases hlt : j < l.length
  · refine RdS.elK hv hlt (by decide) fun bx o x hx hix hE => ?_
    refine RdS.elK hu hlt (by decide) fun bx2 o2 y hy hiy hE2 => ?_
    rw [hx] at hy
    cases hy
    have hnm0 : (nmE x)[0]? = some (.string (zb x)) := rfl
    simp (disch := omega) only [go_sem, undef, dec_t (show ((j : Nat) : Int) < (l.length : Nat) by omega), hix, hiy, hE.ld0, hE2.ld0, hnm0, rd_str_neq, dec_t (rfl : zb x = zb x), Bool.not_true]
    exact handN_intro (l.length - (j + 1)) (by omega) ⟨j + 1, by omega, rfl, rfl, rfl⟩
  · have e : j = l.length := by omega
    subst e
    simp (disch := omega) only [go_sem, undef, dec_f (show ¬ ((l.length : Nat) : Int) < (l.length : Nat) by omega)]
    exact ⟨rfl, Fr.refl _ _⟩
theorem look_nb (nm : Bs) : ∀ (l r : List Fl), l.map nb = r.map nb → (lookF nm l).map Fl.b = (lookF nm r).map Fl.b
  | [], [], _ => rfl
  | [], _ :: _, h => by simp at h
  | _ :: _, [], h => by simp at h
  | x :: l, y :: r, h => by
    simp only [List.map_cons, List.cons.injEq, nb, Prod.mk.injEq] at h
    obtain ⟨⟨h1, h2⟩, h3⟩ := h
    have ih := look_nb nm l r h3
    rw [look_cons, look_cons, h1]
    by_cases h4 : Op.bytesLess y.name nm = true
    · rw [if_pos h4, if_pos h4]; exact ih
    · rw [if_neg h4, if_neg h4]
      by_cases h5 : y.name = nm
      · rw [if_pos h5, if_pos h5]; simp [h2]
      · rw [if_neg h5, if_neg h5]
theorem rdB_nb {nm : Bs} {l r : List Fl} (h : l.map nb = r.map nb) : rdB (lookF nm l) = rdB (lookF nm r) := by
  unfold rdB; rw [look_nb nm l r h]
theorem nm_nb {l r : List Fl} (h : l.map nb = r.map nb) : l.map Fl.name = r.map Fl.name := by
  have := congrArg (List.map Prod.fst) h
  simpa [Function.comp_def, nb] using this
set_option maxHeartbeats 8000000 in
theorem alike_s (h : (dkA rb fv rs D).p m) (h2 : (rkA rb2 fv2 rs2 D2).p m) (hs : Srt D.fl) (hs2 : Srt D2.fl) (hnb : D.fl.map nb = D2.fl.map nb) (hn : D.fl.length ≤ 1000000) (hT : tot D.fl ≤ 1000000000) (hT2 : tot D2.fl ≤ 1000000000) :
    MC Tryz.prog n_law10_alike [lpD rb, lpD rb2] m fun u M => u = .bool true ∧ Fr m M [] := by
  have hn2 : D2.fl.length ≤ 1000000 := by have := congrArg List.length hnb; simp at this; omega
  have hnm := nm_nb hnb
  have hlb : ∀ nm, (rdB (lookF nm D.fl)).length ≤ tot D.fl := fun nm => lookF_len nm D.fl
  refine law10_alike_go (by simp [Tryz.f33]) ?_
  have H := Hq.refl m []
  simp (disch := omega) only [go_sem, undef]
  refine callN H (rnames_s h2 (by omega)) fun u M A' eA f H => ?_
  subst eA
  simp (disch := omega) only [go_sem, undef]
  refine callN H (names_s ((dkA rb fv rs D).fr0 h H.fr) (by omega)) fun u2 M A' eA f H => ?_
  subst eA
  rw [hnm] at H
  have hl2 : (D2.fl.map Fl.name).length ≤ 1000000000 := by rw [List.length_map]; omega
  simp (disch := omega) only [go_sem, undef]
  refine callQ H (sames_s (H.at 0 rfl) (Own.rds (k := 1) (enc := nmE) (by decide) nmE_len (H.at 1 rfl)) hl2) fun M f H => ?_
  have H := H.tail
  generalize D2.fl.map Fl.name = ns at *
  refine Own.formK (H.at 0 rfl) fun a c e => ?_
  subst e
  simp (disch := omega) only [go_sem, undef, Bool.not_true]
  refine loopQ_intro (fun k E m' => ∃ j, j ≤ ns.length ∧ k = ns.length - j ∧ E = [(0, lpD rb), (1, lpD rb2), (5, .slice a ns.length c), (6, .int .i64 (j : Nat))] ∧ Hq m m' [] [nsA (.slice a ns.length c) ns]) ns.length rfl ⟨0, by omega, by omega, rfl, H⟩ ?_
  clear H f
  rintro k E M1 ⟨j, hj, rfl, rfl, H⟩
  by_cases hlt : j < ns.length
  · refine RdS.elK (Own.rds (k := 1) (enc := nmE) (by decide) nmE_len (H.at 0 rfl)) hlt (by decide) fun bx o x hx hix hE => ?_
    have hnm0 : (nmE x)[0]? = some (.string (zb x)) := rfl
    have heq := rdB_nb (nm := x) hnb
    have hlx := hlb x
    simp (disch := omega) only [go_sem, undef, dec_t (show ((j : Nat) : Int) < (ns.length : Nat) by omega), hix, hE.ld0, hnm0]
    refine callN H (read_s ((dkA rb fv rs D).fr0 h H.fr) x (by omega) (by omega)) fun u M A' hR f H => ?_
    refine Exists.elim hR fun w1 hh => ?_
    have eu := hh.1
    have eA := hh.2
    subst eu eA
    clear hh hR
    simp (disch := omega) only [go_sem, undef, hix, (hE.frame f).ld0, hnm0]
    refine callR H (rread_s ((rkA rb2 fv2 rs2 D2).fr0 h2 H.fr) x hs2 (by omega)) fun u M hR f2 H => ?_
    refine Exists.elim hR fun w2 hh => ?_
    have eu := hh.1
    have hb2 := hh.2
    subst eu
    clear hh hR
    rw [← heq] at hb2
    simp (disch := omega) only [go_sem, undef]
    refine callQ H (same_s (byA_rd (H.at 0 rfl)) hb2 (by omega) (by omega)) fun M f3 H => ?_
    simp (disch := omega) only [go_sem, undef, decide_eq_true (rfl : rdB (lookF x D.fl) = rdB (lookF x D.fl)), Bool.not_true]
    exact handN_intro (ns.length - (j + 1)) (by omega) ⟨j + 1, by omega, rfl, rfl, H.tail⟩
  · have e : j = ns.length := by omega
    subst e
    simp (disch := omega) only [go_sem, undef, dec_f (show ¬ ((ns.length : Nat) : Int) < (ns.length : Nat) by omega)]
    exact ⟨rfl, H.fr⟩
end Go.Fw
namespace Go.Fw
open Go.Proofs
/-! What holds of the disk and the log behind any calls. Plain. -/
structure PlI (q i : Nat) (D : Dk) : Prop where
  srt : Srt D.fl
  nm : ∀ x ∈ D.fl, ∃ g k, 0 < g ∧ g ≤ i ∧ 0 < k ∧ k ≤ i ∧ x.name = nmB g k
  tt : tot D.fl ≤ q
  kp : ∀ x ∈ D.fl, x.kept ≤ x.b.length
  qt : D.quota = q
  lf : D.left ≤ 9223372036854775807
structure PW (i : Nat) (W : Wl) : Prop where
  g : W.g ≤ i
  k : W.k ≤ i
  pos : W.g = 0 ∨ 0 < W.k
theorem PW.mono {i j : Nat} {W : Wl} (h : PW i W) (hij : i ≤ j) : PW j W := ⟨Nat.le_trans h.g hij, Nat.le_trans h.k hij, h.pos⟩
theorem PlI.mono {q i j : Nat} {D : Dk} (h : PlI q i D) (hij : i ≤ j) : PlI q j D := ⟨h.srt, fun x hx => by
  obtain ⟨g, k, h1, h2, h3, h4, e⟩ := h.nm x hx
  exact ⟨g, k, h1, by omega, h3, by omega, e⟩, h.tt, h.kp, h.qt, h.lf⟩
theorem PlI.pres {q i : Nat} {D D' : Dk} (h : PlI q i D) (p : Pres D D') : PlI q i D' := ⟨p.srt h.srt, fun y hy => by
  obtain ⟨x, hx, e⟩ := p.nm y hy
  rw [← e]; exact h.nm x hx, Nat.le_trans p.tt h.tt, p.kp h.kp, p.qt.trans h.qt, Nat.le_trans p.lf h.lf⟩
theorem PlI.len {q i : Nat} {D : Dk} (h : PlI q i D) (hi : i ≤ 26) : D.fl.length ≤ 676 := by
  have := len_sub (D.fl.map Fl.name) ((List.range 26).flatMap fun g => (List.range 26).map fun k => nmB (g + 1) (k + 1)) (srt_nod h.srt) fun x hx => by
    obtain ⟨y, hy, rfl⟩ := List.mem_map.1 hx
    obtain ⟨g, k, h1, h2, h3, h4, e⟩ := h.nm y hy
    refine List.mem_flatMap.2 ⟨g - 1, List.mem_range.2 (by omega), List.mem_map.2 ⟨k - 1, List.mem_range.2 (by omega), ?_⟩⟩
    rw [e, show g - 1 + 1 = g from by omega, show k - 1 + 1 = k from by omega]
  have e : ((List.range 26).flatMap fun g => (List.range 26).map fun k => nmB (g + 1) (k + 1)).length = 676 := by
    decide +kernel
  rw [e] at this
  simpa using this
theorem PlI.pl {q i : Nat} {D : Dk} (h : PlI q i D) (hi : i ≤ 26) : ∀ x ∈ D.fl, PlOk x.name := fun x hx hn => by
  obtain ⟨g, k, h1, h2, h3, h4, e⟩ := h.nm x hx
  rw [e, plF_nm h1 (by omega) h3 (by omega)] at hn; cases hn
theorem PlI.nmo {q i : Nat} {D : Dk} (h : PlI q i D) (hi : i ≤ 26) : ∀ x ∈ D.fl, NmOk x.name := fun x hx => by
  obtain ⟨g, k, h1, h2, h3, h4, e⟩ := h.nm x hx
  rw [e]; exact nmOk_nm h1 (by omega) h3 (by omega)
theorem PlI.nml {q i : Nat} {D : Dk} (h : PlI q i D) (hi : i ≤ 26) : ∀ x ∈ D.fl, x.name.length ≤ 1000000 := fun x hx => by
  obtain ⟨g, k, h1, h2, h3, h4, e⟩ := h.nm x hx
  have := (nm_may g k (by omega) (by omega)).2.1
  rw [e]; omega
theorem PlI.no {q i : Nat} {D : Dk} (h : PlI q i D) (hi : i ≤ 26) {g k : Nat} (hg : g < 100) (hk : k < 100) (hik : i < k) : lookF (nmB g k) D.fl = none := by
  cases hl : lookF (nmB g k) D.fl with
  | none => rfl
  | some x =>
    obtain ⟨hx, e⟩ := look_name hl
    obtain ⟨g', k', h1, h2, h3, h4, e2⟩ := h.nm x hx
    have := (nmB_inj hg hk (by omega) (by omega) (e.symm.trans e2)).2
    omega
theorem PlI.n99 {q i : Nat} {D : Dk} (h : PlI q i D) (hi : i ≤ 26) : ∀ g, g < 100 → lookF (nmB g 99) D.fl = none := fun g hg => h.no hi hg (by omega) (by omega)
theorem b_le {l : List Fl} {x : Fl} (hs : Srt l) (hx : x ∈ l) : x.b.length ≤ tot l := lookF_tot (mem_look hs hx)
theorem PlI.kb {q i : Nat} {D : Dk} (h : PlI q i D) : ∀ x ∈ D.fl, x.kept ≤ q := fun x hx => Nat.le_trans (h.kp x hx) (Nat.le_trans (b_le h.srt hx) h.tt)
end Go.Fw
namespace Go.Fw
open Go.Proofs
variable {m m0 M : Mem} {S : List Nat} {L : List As}
variable {rb wb rb2 wb2 : Nat} {fv fv2 : Value} {rs rs2 : List Row} {D D2 : Dk}
theorem segN_recs (fl : List Fl) (g T : Nat) (hT : ∀ nm x, lookF nm fl = some x → x.b.length ≤ T) : ∀ f k all lk size r, segN fl g f k all lk size = some r → (∀ p ∈ all, p.length ≤ 16384) → (∀ p ∈ r.1, p.length ≤ 16384) ∧ r.1.length ≤ all.length + f * T
  | 0, k, all, lk, size, r, h, ho => by
    rw [segN] at h; cases h; exact ⟨ho, by simp⟩
  | f + 1, k, all, lk, size, r, h, ho => by
    cases hl : lookF (nmB g k) fl with
    | none => rw [segN_sn hl] at h; cases h; exact ⟨ho, Nat.le_add_right _ _⟩
    | some x =>
      rw [segN_ss hl] at h
      have h2 := hT _ x hl
      have h3 := (scanF_le x.b).1
      have ho2 : ∀ p ∈ all ++ (scanF x.b).1, p.length ≤ 16384 := fun p hp => by
        rcases List.mem_append.1 hp with hp | hp
        · exact ho p hp
        · exact scanF_ok x.b p hp
      have hm : (f + 1) * T = f * T + T := Nat.succ_mul ..
      split at h
      · cases h
      split at h
      · cases h
        exact ⟨ho2, by simp only [List.length_append]; have := Nat.zero_le (f * T); omega⟩
      · obtain ⟨h4, h5⟩ := segN_recs fl g T hT f (k + 1) _ _ _ r h ho2
        refine ⟨h4, ?_⟩
        rw [List.length_append] at h5; omega
theorem opF_recs {D : Dk} {T : Nat} (hT : tot D.fl ≤ T) : (∀ p ∈ (opF D).1.2, p.length ≤ 16384) ∧ (opF D).1.2.length ≤ 99 * T := by
  have hrd : (∀ p ∈ (readG D.fl (grF D.fl)).1, p.length ≤ 16384) ∧ (readG D.fl (grF D.fl)).1.length ≤ 99 * T := by
    unfold readG
    cases h : segN D.fl (grF D.fl) 99 1 [] 0 0 with
    | none => simp
    | some r =>
      obtain ⟨all, lk, size⟩ := r
      obtain ⟨h1, h2⟩ := segN_recs D.fl (grF D.fl) T (fun nm x hx => Nat.le_trans (lookF_tot hx) hT) 99 1 [] 0 0 _ h (by simp)
      simp only
      split
      · exact ⟨fun p hp => h1 p (List.mem_of_mem_tail hp), by simp at h2 ⊢; omega⟩
      · simp
  by_cases hg : grF D.fl = 0
  · unfold opF
    rw [if_pos hg]
    split <;> simp
  · obtain ⟨r, hr⟩ : ∃ r, r = readG D.fl (grF D.fl) := ⟨_, rfl⟩
    obtain ⟨c, hc⟩ : ∃ c, c = (if r.2.2.1 < (rdB (lookF (nmB r.2.1.1 r.2.1.2) D.fl)).length then cutF (nmB r.2.1.1 r.2.1.2) r.2.2.1 D else (D, 0)) := ⟨_, rfl⟩
    rw [opF_eq D hg r hr.symm c hc.symm]
    rw [← hr] at hrd
    clear hc hr
    split
    · simp
    split
    · simp
    split
    · simp
    · exact hrd
def PlSt (m0 M : Mem) (rb rb2 : Nat) (Wo : Option Wl) (D : Dk) (u v : Value) : Prop :=
  match Wo with
  | some W => ∃ wb wb2 fv rs fv2 rs2, u = lpD wb ∧ v = lpD wb2 ∧ Hq m0 M [] [wlA wb rb fv rs W D, rwA wb2 rb2 fv2 rs2 W D]
  | none => u = .pointer none ∧ v = .pointer none ∧ ∃ fv rs fv2 rs2, Hq m0 M [] [dkA rb fv rs D, rkA rb2 fv2 rs2 D]
def PlL (rb rb2 : Nat) (Wo : Option Wl) (D : Dk) (u v : Value) (L0 : List As) : Prop :=
  match Wo with
  | some W => ∃ wb wb2 fv rs fv2 rs2, u = lpD wb ∧ v = lpD wb2 ∧ L0 = [wlA wb rb fv rs W D, rwA wb2 rb2 fv2 rs2 W D]
  | none => u = .pointer none ∧ v = .pointer none ∧ ∃ fv rs fv2 rs2, L0 = [dkA rb fv rs D, rkA rb2 fv2 rs2 D]
theorem PlL.back {Wo : Option Wl} {u v : Value} {L0 : List As} (h : PlL rb rb2 Wo D u v L0) (H : Hq m M [] L0) : PlSt m M rb rb2 Wo D u v := by
  cases Wo with
  | some W =>
    obtain ⟨wb, wb2, fv, rs, fv2, rs2, h1, h2, rfl⟩ := h
    exact ⟨wb, wb2, fv, rs, fv2, rs2, h1, h2, H⟩
  | none =>
    obtain ⟨h1, h2, fv, rs, fv2, rs2, rfl⟩ := h
    exact ⟨h1, h2, fv, rs, fv2, rs2, H⟩
theorem PlL.noneE {G : Prop} {u v : Value} {L0 : List As} (h : PlL rb rb2 none D u v L0) (k : ∀ fv rs fv2 rs2, u = .pointer none → v = .pointer none → L0 = [dkA rb fv rs D, rkA rb2 fv2 rs2 D] → G) : G := by
  obtain ⟨h1, h2, fv, rs, fv2, rs2, H⟩ := h
  exact k fv rs fv2 rs2 h1 h2 H
theorem PlL.someE {G : Prop} {W : Wl} {u v : Value} {L0 : List As} (h : PlL rb rb2 (some W) D u v L0) (k : ∀ wb wb2 fv rs fv2 rs2, u = lpD wb → v = lpD wb2 → L0 = [wlA wb rb fv rs W D, rwA wb2 rb2 fv2 rs2 W D] → G) : G := by
  obtain ⟨wb, wb2, fv, rs, fv2, rs2, h1, h2, H⟩ := h
  exact k wb wb2 fv rs fv2 rs2 h1 h2 H
theorem front_perm {α : Type} : ∀ (L : List α) (i : Nat) (h : i < L.length), List.Perm L (L[i] :: L.eraseIdx i)
  | [], _, h => by simp at h
  | x :: r, 0, _ => List.Perm.refl _
  | x :: r, i + 1, h => ((front_perm r i (by simpa using h)).cons x).trans (List.Perm.swap ..)
theorem Hq.front (H : Hq m0 m S L) (i : Nat) (h : i < L.length) : Hq m0 m S (L[i] :: L.eraseIdx i) := H.perm (front_perm L i h).symm
theorem PlL.open {Wo : Option Wl} {u v : Value} {L0 : List As} {X : As} (h : PlL rb rb2 Wo D u v L0) (H : Hq m M [] (X :: L0)) : ∃ fv rs fv2 rs2, Hq m M [] [X, dkA rb fv rs D, rkA rb2 fv2 rs2 D] := by
  cases Wo with
  | some W =>
    obtain ⟨wb, wb2, fv, rs, fv2, rs2, h1, h2, rfl⟩ := h
    have H : Hq m M [] [wlA wb rb fv rs W D, X, rwA wb2 rb2 fv2 rs2 W D] := H.front 1 (by simp)
    have H : Hq m M [] [dkA rb fv rs D, X, rwA wb2 rb2 fv2 rs2 W D] := (Hq.split (A := wcA wb rb W) H).tail
    have H : Hq m M [] [rwA wb2 rb2 fv2 rs2 W D, dkA rb fv rs D, X] := H.front 2 (by simp)
    have H : Hq m M [] [rkA rb2 fv2 rs2 D, dkA rb fv rs D, X] := (Hq.split (A := rwcA wb2 rb2 W) H).tail
    exact ⟨_, _, _, _, (H.front 2 (by simp) : Hq m M [] [X, rkA rb2 fv2 rs2 D, dkA rb fv rs D]).perm (List.Perm.cons _ (List.Perm.swap ..))⟩
  | none =>
    obtain ⟨h1, h2, fv, rs, fv2, rs2, rfl⟩ := h
    exact ⟨_, _, _, _, H⟩
theorem OpR.noneE {G : Prop} {o : (Option Wl × List Bs) × Dk × Nat} {u : Value} {A : As} (h : OpR rb o u A) (ho : o.1.1 = none) (k : ∀ fv rs, u = .tuple #[.pointer none, .slice none 0 0, .int .i64 (o.2.2 : Nat)] → A = dkA rb fv rs o.2.1 → G) : G := by
  unfold OpR at h
  rw [ho] at h
  obtain ⟨h1, fv, rs, h2⟩ := h
  exact k fv rs h1 h2
theorem OpR.someE {G : Prop} {o : (Option Wl × List Bs) × Dk × Nat} {W : Wl} {u : Value} {A : As} (h : OpR rb o u A) (ho : o.1.1 = some W) (k : ∀ wb w vs fv rs, u = .tuple #[lpD wb, w, .int .i64 0] → A = starA (rbA w vs o.1.2) (wlA wb rb fv rs W o.2.1) → G) : G := by
  unfold OpR at h
  rw [ho] at h
  obtain ⟨wb, w, vs, fv, rs, h1, h2⟩ := h
  exact k wb w vs fv rs h1 h2
theorem ROpR.noneE {G : Prop} {o : (Option Wl × List Bs) × Dk × Nat} {u : Value} {A : As} (h : ROpR rb o u A) (ho : o.1.1 = none) (k : ∀ fv rs, u = .tuple #[.pointer none, .slice none 0 0, .int .i64 (o.2.2 : Nat)] → A = rkA rb fv rs o.2.1 → G) : G := by
  unfold ROpR at h
  rw [ho] at h
  obtain ⟨h1, fv, rs, h2⟩ := h
  exact k fv rs h1 h2
theorem ROpR.someE {G : Prop} {o : (Option Wl × List Bs) × Dk × Nat} {W : Wl} {u : Value} {A : As} (h : ROpR rb o u A) (ho : o.1.1 = some W) (k : ∀ wb w vs fv rs, u = .tuple #[lpD wb, w, .int .i64 0] → A = starA (rbA w vs o.1.2) (rwA wb rb fv rs W o.2.1) → G) : G := by
  unfold ROpR at h
  rw [ho] at h
  obtain ⟨wb, w, vs, fv, rs, h1, h2⟩ := h
  exact k wb w vs fv rs h1 h2
theorem PlSt.noneE {G : Prop} {u v : Value} (h : PlSt m M rb rb2 none D u v) (k : ∀ fv rs fv2 rs2, u = .pointer none → v = .pointer none → Hq m M [] [dkA rb fv rs D, rkA rb2 fv2 rs2 D] → G) : G := by
  obtain ⟨h1, h2, fv, rs, fv2, rs2, H⟩ := h
  exact k fv rs fv2 rs2 h1 h2 H
theorem PlSt.someE {G : Prop} {W : Wl} {u v : Value} (h : PlSt m M rb rb2 (some W) D u v) (k : ∀ wb wb2 fv rs fv2 rs2, u = lpD wb → v = lpD wb2 → Hq m M [] [wlA wb rb fv rs W D, rwA wb2 rb2 fv2 rs2 W D] → G) : G := by
  obtain ⟨wb, wb2, fv, rs, fv2, rs2, h1, h2, H⟩ := h
  exact k wb wb2 fv rs fv2 rs2 h1 h2 H
theorem WlR.E {G : Prop} {W : Wl} {V u : Value} {A : As} (h : WlR wb rb W D V u A) (k : ∀ fv rs, u = V → A = wlA wb rb fv rs W D → G) : G := by
  obtain ⟨h1, fv, rs, h2⟩ := h
  exact k fv rs h1 h2
theorem RwR.E {G : Prop} {W : Wl} {V u : Value} {A : As} (h : RwR wb rb W D V u A) (k : ∀ fv rs, u = V → A = rwA wb rb fv rs W D → G) : G := by
  obtain ⟨h1, fv, rs, h2⟩ := h
  exact k fv rs h1 h2
theorem DkR.E {G : Prop} {V u : Value} {A : As} (h : DkR rb D V u A) (k : ∀ fv rs, u = V → A = dkA rb fv rs D → G) : G := by
  obtain ⟨h1, fv, rs, h2⟩ := h
  exact k fv rs h1 h2
theorem RkR.E {G : Prop} {V u : Value} {A : As} (h : RkR rb D V u A) (k : ∀ fv rs, u = V → A = rkA rb fv rs D → G) : G := by
  obtain ⟨h1, fv, rs, h2⟩ := h
  exact k fv rs h1 h2
theorem np_t (b : Nat) : rd (.eqp true) [.pointer (some ⟨b, 0, none⟩), .pointer none] m = some (.bool true) := rfl
theorem np_f (b : Nat) : rd (.eqp false) [.pointer (some ⟨b, 0, none⟩), .pointer none] m = some (.bool false) := rfl
end Go.Fw
namespace Go.Fw
open Go.RowKit Go.ChangeShapes Go.WideShapes
open Go.Proofs
/-! sizes of what comes in -/
theorem wts_all {H : Type} {P : Program} {e : TypeId} : ∀ (l : List (DataW H)) (d : DataW H), d ∈ l → ∀ n ∈ d.weights P e, n ∈ DataW.weightsAll P e l
  | [], d, h, _, _ => by simp at h
  | x :: r, d, h, n, hn => by
    unfold DataW.weightsAll
    rcases List.mem_cons.1 h with rfl | h
    · exact List.mem_append_left _ hn
    · exact List.mem_append_right _ (wts_all r d h n hn)
/-- one row of bytes -/
theorem row_sized {H : Type} {enc : TypeId × Value → H} {P : Program} {W : World} {base : Nat} {held : Bool} {fuel : Nat} {e q : TypeId} {v : Value} {x : DataW H × List MemPlace} (he : P.underlying e = some (.slice q)) (bq : P.bytesOf q = 1)
    (hf : DataW.trod enc P W base (fun _ => true) held fuel e [v] = some x) (hw : ∀ n ∈ x.1.weights P e, n ≤ reachBytes) : ∀ a l c, v = .slice a l c → l ≤ reachBytes := by
  rintro a l c rfl
  rcases Deep.open_slice he hf with ⟨h1, _⟩ | ⟨a', len, cap, m, n, D, Pl, h1, _, _, _, _, h2, _⟩
  · cases h1; exact Nat.zero_le _
  · cases h1
    have := hw ((((List.range l).map D).length + ((List.range (m - l)).map fun j => D (l + j)).length) * P.bytesOf q) (by rw [h2]; simp [DataW.weights, he])
    rw [bq] at this
    simp at this; omega
/-- rows of bytes that came in, none too long -/
theorem byteRows_sized {H : Type} {enc : TypeId × Value → H} {P : Program} {W : World} {base : Nat} {held : Bool} {fuel : Nat} {t e q : TypeId} {cs : List Value} {x : DataW H × List MemPlace} (ht : P.underlying t = some (.slice e)) (he : P.underlying e = some (.slice q)) (hq : P.underlying q = some (.int .u8))
    (ce : P.cellsOf e = 1) (cq : P.cellsOf q = 1) (bq : P.bytesOf q = 1) (hf : DataW.trod enc P W base (fun _ => true) held fuel t cs = some x) (hw : ∀ n ∈ x.1.weights P t, n ≤ reachBytes) :
    ∃ v vs ls, cs = [v] ∧ RdS 1 v1 (absM W) v vs ∧ F2 (fun v l => RdB (absM W) v l) vs ls ∧ vs.length ≤ 9223372036854775807 ∧ ∀ l ∈ ls, l.length ≤ 140737488355328 := by
  obtain ⟨v, vs, ls, rfl, h1, h2, h3, _⟩ := trod_byteRows ht he hq ce cq hf
  refine ⟨v, vs, ls, rfl, h1, h2, h3, fun l hl => ?_⟩
  obtain ⟨i, hi⟩ := List.getElem?_of_mem hl
  have hil := (List.getElem?_eq_some_iff.1 hi).1
  have hvl := F2_len h2
  obtain ⟨a, c, rfl⟩ := h1.form
  refine F2_at h2 (i := i) (by omega) fun v' l' hv' hl' hR => ?_
  rw [hi] at hl'
  cases hl'
  obtain ⟨a3, c3, rfl⟩ := hR.form
  have hrb : reachBytes < 2 ^ 47 := reachBytes_lt
  rcases Deep.open_slice ht hf with ⟨h4, _⟩ | ⟨a', len, cap, m, n, D, Pl, h4, _, hlc, _, hmm, h5, hrows⟩
  · have h4 : vs.length = 0 := by
      have := congrArg (fun l => l) h4
      simp at this; simp [this.2]
    omega
  · have h4 : a = some a' ∧ vs.length = len ∧ c = cap := by simpa using h4
    obtain ⟨rfl, hlen, rfl⟩ := h4
    simp only [if_true] at hmm
    obtain ⟨cs', h6, h7⟩ := hrows i (by omega)
    rw [ce] at h6
    have hc := (World.cells?_some h6)
    have hcell : W.cell? (a'.add (i * 1)) = some (.slice a3 l.length c3) := by
      obtain ⟨_, a0, c0, e0, _, hr⟩ := h1
      cases e0
      have e1 : vs.flatMap v1 = vs := List.flatMap_singleton' _
      rcases hr with hr | ⟨b', o', e2, hr⟩
      · rw [e1] at hr
        have h0 : vs.length = 0 := by rw [hr]; rfl
        omega
      · cases e2
        rw [e1] at hr
        have := hr i _ hv'
        rw [add_mk, ← cell_abs, cell_mk, Nat.mul_one]
        exact this
    have h8 : cs' = [.slice a3 l.length c3] := by
      have h9 : cs'.length = 1 := hc.2.1
      have h10 := hc.2.2 0 (by omega)
      rw [show (a'.add (i * 1)).add 0 = a'.add (i * 1) from by simp [Addr.add], hcell] at h10
      cases cs' with
      | nil => simp at h9
      | cons y r =>
        cases r with
        | nil => simp at h10; rw [h10]
        | cons _ _ => simp at h9
    subst h8
    have hwi : ∀ n ∈ (D i).weights P e, n ≤ reachBytes := fun n hn => by
      refine hw n ?_
      rw [h5]
      show n ∈ DataW.weights P t (.slice _ _)
      unfold DataW.weights
      rw [ht]
      refine List.mem_cons_of_mem _ (List.mem_append_left _ (wts_all _ (D i) (List.mem_map.2 ⟨i, List.mem_range.2 (by omega), rfl⟩) n hn))
    have := row_sized he bq h7 hwi a3 l.length c3 rfl
    omega
theorem wt_at {H : Type} {P : Program} {ts vt : List TypeId} {ds gs : List (DataW H)} {j : Nat} {t : TypeId} {d : DataW H} (h : (DataW.weightsEach P (ts ++ vt) (ds ++ gs)).all (· ≤ reachBytes) = true) (ht : ts[j]? = some t) (hd : ds[j]? = some d) : ∀ n ∈ d.weights P t, n ≤ reachBytes := fun n hn => by
  have h1 := (List.getElem?_eq_some_iff.1 ht).1
  have h2 := (List.getElem?_eq_some_iff.1 hd).1
  have := List.all_eq_true.1 h n (DataW.weights_mem_each (j := j) (t := t) (d := d) (by rw [List.getElem?_append_left h1]; exact ht) (by rw [List.getElem?_append_left h2]; exact hd) n hn)
  simpa using this
end Go.Fw
