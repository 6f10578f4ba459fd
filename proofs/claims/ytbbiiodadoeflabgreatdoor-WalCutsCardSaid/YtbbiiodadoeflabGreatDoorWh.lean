import Derived.Test.YtbbiiodadoeflabGreatDoorWe
import Derived.Test.YtbbiiodadoeflabGreatDoorWg
set_option linter.unusedVariables false
set_option linter.unusedSimpArgs false
set_option linter.unusedSimpArgs false
set_option linter.unusedVariables false
namespace Go.Fw
open Go.Proofs
/-! Torn frames. Plain. -/
theorem nextF_cut (p : Bs) (hp : okR p) (c : Nat) (hc : c < (frB p).length) : nextF ((frB p).take c) = none := by
  rw [frB_len] at hc
  have hl : ((frB p).take c).length = c := by rw [List.length_take, frB_len]; omega
  unfold nextF
  rw [hl]
  by_cases h2 : c < 2
  · rw [if_pos h2]
  · have ht : ((frB p).take c).take 2 = le 2 p.length := by
      rw [List.take_take, Nat.min_eq_left (by omega), frB, hdB, List.append_assoc]
      exact List.take_left' (le_len 2 _)
    have hp2 := hp.2
    rw [if_neg h2, ht, ofLe_le 2 _ (by omega)]
    split
    · rfl
    · rw [if_pos (by omega)]
theorem frs_take_le (l : List Bs) (j : Nat) : (frs l).take (frs (l.take j)).length = frs (l.take j) := by
  have : frs l = frs (l.take j) ++ frs (l.drop j) := by rw [← frs_app, List.take_append_drop]
  rw [this, List.take_left]
theorem scan_cut : ∀ (l : List Bs) (c : Nat), (∀ p ∈ l, okR p) → ∃ j, j ≤ l.length ∧ scanF ((frs l).take c) = (l.take j, (frs (l.take j)).length) ∧ (frs (l.take j)).length ≤ ((frs l).take c).length ∧ ((frs l).take c = frs l → j = l.length) ∧ (j = l.length → (frs l).take c = frs l)
  | [], c, _ => ⟨0, by simp, by simp [frs, scanF_nil], by simp [frs], by simp, by simp [frs]⟩
  | p :: r, c, h => by
    have hp := h p (List.mem_cons_self ..)
    by_cases hc : c < (frB p).length
    · have e : (frs (p :: r)).take c = (frB p).take c := by rw [frs_cons, List.take_append_of_le_length (by omega)]
      refine ⟨0, by simp, ?_, by simp [frs], fun h2 => ?_, fun h2 => by simp at h2⟩
      · rw [e, scanF_none (nextF_cut p hp c hc)]; simp [frs]
      · exfalso
        have := congrArg List.length h2
        rw [e, List.length_take, frs_cons, List.length_append] at this
        omega
    · obtain ⟨j, h1, h2, h3, h4, h5⟩ := scan_cut r (c - (frB p).length) fun q hq => h q (List.mem_cons_of_mem _ hq)
      have e : (frs (p :: r)).take c = frB p ++ (frs r).take (c - (frB p).length) := by rw [frs_cons, List.take_append, List.take_of_length_le (by omega)]
      refine ⟨j + 1, by simpa using h1, ?_, ?_, fun h6 => ?_, fun h6 => ?_⟩
      · rw [e, scanF_some (nextF_fr p _ hp.1 hp.2)]
        rw [show p.length + 6 = (frB p).length from (frB_len p).symm, List.drop_left, h2]
        simp [frs_cons]
      · rw [e]; simp only [List.take_succ_cons, frs_cons, List.length_append]; omega
      · rw [e, frs_cons] at h6
        rw [h4 (List.append_cancel_left h6)]; rfl
      · rw [e, frs_cons, h5 (by simpa using h6)]
theorem segN_pre (fl : List Fl) (g : Nat) : ∀ (ls : List (List Bs)) (k f : Nat) (all : List Bs) (lk size : Nat), (∀ j (h : j < ls.length), ∃ kp, lookF (nmB g (k + j)) fl = some ⟨nmB g (k + j), frs ls[j], kp⟩) →
    (∀ l ∈ ls, ∀ p ∈ l, okR p) → (k = 1 → ∀ l r, ls = l :: r → l ≠ []) → lk + 1 = k → segN fl g (ls.length + f) k all lk size = segN fl g f (k + ls.length) (all ++ ls.flatten) (lk + ls.length) (lastSz size ls)
  | [], k, f, all, lk, size, _, _, _, _ => by simp [lastSz]
  | l :: r, k, f, all, lk, size, hl, hok, h1, hlk => by
    obtain ⟨kp, h0⟩ := hl 0 (by simp)
    rw [show (l :: r).length + f = (r.length + f) + 1 from by simp; omega, segN, show lookF (nmB g k) fl = some ⟨nmB g k, frs l, kp⟩ from h0]
    have hs := scan_all l (hok l (List.mem_cons_self ..))
    simp only [hs]
    rw [if_neg (by rintro ⟨e, e2⟩; exact h1 e l r rfl e2), if_neg (by omega)]
    rw [segN_pre fl g r (k + 1) f (all ++ l) k (frs l).length (fun j h => by
        obtain ⟨kp, hj⟩ := hl (j + 1) (by simpa using h)
        exact ⟨kp, by rw [show k + 1 + j = k + (j + 1) from by omega]; simpa using hj⟩) (fun l' h => hok l' (List.mem_cons_of_mem _ h)) (by omega) rfl]
    simp only [List.flatten_cons, List.append_assoc, List.length_cons, lastSz]
    rw [show k + 1 + r.length = k + (r.length + 1) from by omega, show k + r.length = lk + (r.length + 1) from by omega]
/-- a generation whose last segment is torn -/
structure TornR (n : Nat) (was came : List Bs) (lp : List (List Bs)) (lb : List Bs) : Prop where
  flat : lp.flatten ++ lb = numB (n : Nat) :: was
  first : ∀ l r, lp ++ [lb] = l :: r → l ≠ []
  okw : ∀ p ∈ was, okR p
  okc : ∀ p ∈ came, okR p
  nn : n ≤ was.length
  nb : n < 1000000000
def tornS (lp : List (List Bs)) (lb came : List Bs) (c : Nat) : List Bs := lp.map frs ++ [frs lb ++ (frs came).take c]
theorem tornS_len (lp : List (List Bs)) (lb came : List Bs) (c : Nat) : (tornS lp lb came c).length = lp.length + 1 := by simp [tornS]
theorem TornR.okl {n : Nat} {was came : List Bs} {lp : List (List Bs)} {lb : List Bs} (R : TornR n was came lp lb) : (∀ l ∈ lp, ∀ p ∈ l, okR p) ∧ ∀ p ∈ lb, okR p := by
  have : ∀ p ∈ lp.flatten ++ lb, okR p := fun p hp => by
    rw [R.flat] at hp
    rcases List.mem_cons.1 hp with rfl | h2
    · exact numB_ok _
    · exact R.okw p h2
  exact ⟨fun l hl p hp => this p (List.mem_append_left _ (List.mem_flatten.2 ⟨l, hl, hp⟩)), fun p hp => this p (List.mem_append_right _ hp)⟩
theorem readG_torn {fl : List Fl} {g n c : Nat} {was came : List Bs} {lp : List (List Bs)} {lb : List Bs} (G : Gen fl g (tornS lp lb came c)) (R : TornR n was came lp lb) (hg0 : 0 < g) (hg : g < 100) (hK : lp.length + 1 < 98) :
    ∃ j, j ≤ came.length ∧ readG fl g = (was ++ came.take j, (g, lp.length + 1), (frs lb).length + (frs (came.take j)).length, true) ∧ (frs (came.take j)).length ≤ ((frs came).take c).length ∧ ((frs came).take c = frs came → j = came.length) ∧ (j = came.length → (frs came).take c = frs came) := by
  obtain ⟨j, h1, h2, h3, h4, h5⟩ := scan_cut came c R.okc
  have hlen := tornS_len lp lb came c
  have hok := R.okl
  refine ⟨j, h1, ?_, h3, h4, h5⟩
  have hscan : scanF (frs lb ++ (frs came).take c) = (lb ++ came.take j, (frs lb).length + (frs (came.take j)).length) := by
    rw [scan_frs lb _ hok.2, h2]
  have hlast : lookF (nmB g (lp.length + 1)) fl = some ⟨nmB g (lp.length + 1), frs lb ++ (frs came).take c, (frs lb ++ (frs came).take c).length⟩ := by
    have := G.seg lp.length (by omega)
    rw [this]
    simp [tornS]
  have hnone := G.noF hg (by omega) hg (k' := lp.length + 2) (by omega) (.inr (.inr (by omega)))
  have hpre := segN_pre fl g lp 1 (99 - lp.length) [] 0 0 (fun i hi => ⟨_, by
    have := G.seg i (by omega)
    rw [Nat.add_comm 1 i, this]
    simp only [tornS]
    rw [List.getElem_append_left (by simpa using hi), List.getElem_map]⟩) hok.1 (fun _ l r e => R.first l (r ++ [lb]) (by rw [e]; rfl)) rfl
  rw [show lp.length + (99 - lp.length) = 99 from by omega] at hpre
  have hstep : segN fl g 99 1 [] 0 0 = some (lp.flatten ++ (lb ++ came.take j), lp.length + 1, (frs lb).length + (frs (came.take j)).length) := by
    rw [hpre, show 99 - lp.length = (97 - lp.length) + 1 + 1 from by omega, segN, Nat.add_comm 1 lp.length, hlast]
    simp only [hscan]
    rw [if_neg (by
      rintro ⟨e, e2⟩
      have : lp = [] := List.eq_nil_of_length_eq_zero (by omega)
      subst this
      exact R.first lb [] rfl (List.append_eq_nil_iff.1 e2).1)]
    split
    · simp
    · rw [segN, show lookF (nmB g (lp.length + 1 + 1)) fl = none from hnone]
      simp
  unfold readG
  rw [hstep]
  simp only
  rw [← List.append_assoc, R.flat, List.cons_append, if_pos (hdr_ok n _ (by rw [List.length_append]; have := R.nn; omega) R.nb)]
  unfold plC
  rw [if_neg (by omega)]; rfl
end Go.Fw

set_option linter.unusedSimpArgs false
set_option linter.unusedVariables false
namespace Go.Fw
open Go.Proofs
/-! What Open leaves, whatever the power. Plain. -/
theorem pow_off {D : Dk} (ho : D.off = false) (h : (powF D).2 = 0) : (powF D).1.off = false := by
  unfold powF at *
  split
  · split
    · rename_i h1 h2; rw [if_pos h1, if_pos h2] at h; cases h
    · exact ho
  · exact ho
theorem cut_any {D : Dk} (ho : D.off = false) (hs : Srt D.fl) {nm : Bs} {f : Fl} (hl : lookF nm D.fl = some f) {n : Nat} (hn : n ≤ f.b.length) :
    ((powF D).2 ≠ 0 ∧ cutF nm n D = powF D) ∨ ((powF D).2 = 0 ∧ ∃ F, cutF nm n D = ({ (powF D).1 with fl := F }, 0) ∧ Srt F ∧ (∀ nm', lookF nm' F = if nm' = nm then some (cutT n f) else lookF nm' D.fl) ∧ F.map Fl.name = D.fl.map Fl.name ∧ tot F ≤ tot D.fl) := by
  have hla : lenAt D.fl (findF nm D.fl 0).1 = f.b.length := by
    unfold lenAt
    have h1 := hl
    unfold lookF at h1
    split at h1
    · rw [h1]; rfl
    · cases h1
  unfold cutF
  rw [known_ok ho hl, if_neg (by simp), if_neg (by simp only; omega)]
  by_cases hp : (powF D).2 = 0
  · refine .inr ⟨hp, D.fl.modify (findF nm D.fl 0).1 (cutT n), by rw [if_neg (by simp [hp])], srt_upd (nm := nm) (g := cutT n) (fun f => rfl) hs _, fun nm' => ?_, names_modify _ _ _ fun f => rfl, tot_mod _ _ _ fun f => by simp [cutT]; omega⟩
    rw [look_upd (g := cutT n) (fun f => rfl) hs (by rw [hl]; rfl), hl]; rfl
  · exact .inl ⟨hp, by rw [if_pos hp]⟩
theorem sync_any {D : Dk} (ho : D.off = false) (hs : Srt D.fl) {nm : Bs} {f : Fl} (hl : lookF nm D.fl = some f) :
    ((powF D).2 ≠ 0 ∧ syncF nm D = powF D) ∨ ((powF D).2 = 0 ∧ ∃ F, syncF nm D = ({ (powF D).1 with fl := F }, 0) ∧ Srt F ∧ (∀ nm', lookF nm' F = if nm' = nm then some (keptF f) else lookF nm' D.fl) ∧ F.map Fl.name = D.fl.map Fl.name ∧ tot F = tot D.fl) := by
  unfold syncF
  rw [known_ok ho hl, if_neg (by simp)]
  by_cases hp : (powF D).2 = 0
  · refine .inr ⟨hp, D.fl.modify (findF nm D.fl 0).1 keptF, by rw [if_neg (by simp [hp])], srt_upd (nm := nm) (g := keptF) (fun f => rfl) hs _, fun nm' => ?_, names_modify _ _ _ fun f => rfl, ?_⟩
    · rw [look_upd (g := keptF) (fun f => rfl) hs (by rw [hl]; rfl), hl]; rfl
    · have := tot_upd nm keptF D.fl f hl
      simp only [keptF] at this; omega
  · exact .inl ⟨hp, by rw [if_pos hp]⟩
theorem rm_any {D : Dk} (ho : D.off = false) (hs : Srt D.fl) {nm : Bs} {f : Fl} (hl : lookF nm D.fl = some f) :
    ((powF D).2 ≠ 0 ∧ rmF nm D = powF D) ∨ ((powF D).2 = 0 ∧ ∃ F, rmF nm D = ({ (powF D).1 with fl := F }, 0) ∧ Srt F ∧ (∀ nm', lookF nm' F = if nm' = nm then none else lookF nm' D.fl) ∧ tot F ≤ tot D.fl ∧ ∀ y ∈ F, y ∈ D.fl) := by
  unfold rmF
  rw [known_ok ho hl, if_neg (by simp)]
  by_cases hp : (powF D).2 = 0
  · exact .inr ⟨hp, D.fl.eraseIdx (findF nm D.fl 0).1, by rw [if_neg (by simp [hp])], srt_del hs _, look_del hs (by rw [hl]; rfl), tot_erase _ _, fun y hy => (List.eraseIdx_sublist ..).subset hy⟩
  · exact .inl ⟨hp, by rw [if_pos hp]⟩
/-- the last segment is another one -/
theorem Gen.upd {fl F : List Fl} {g : Nat} {init : List Bs} {x y : Bs} (G : Gen fl g (init ++ [x])) (hg : g < 100) (hK : init.length + 1 < 99) (hs : Srt F) (hl : ∀ nm', lookF nm' F = if nm' = nmB g (init.length + 1) then some ⟨nmB g (init.length + 1), y, y.length⟩ else lookF nm' fl) (hn : F.map Fl.name = fl.map Fl.name) : Gen F g (init ++ [y]) := by
  refine ⟨hs, fun k hk => ?_, fun z hz => ?_⟩
  · rw [hl]
    rw [List.length_append, List.length_singleton] at hk
    by_cases e : k = init.length
    · subst e
      rw [if_pos rfl]
      simp
    · have hk2 : k < init.length := by omega
      rw [if_neg (fun h => e (by have := (nmB_inj hg (by omega) hg (by omega) h).2; omega)), List.getElem_append_left hk2]
      have := G.seg k (by simp; omega)
      rw [List.getElem_append_left hk2] at this
      exact this
  · obtain ⟨w, hw, e⟩ := names_mem hn hz
    obtain ⟨k, hk, e2⟩ := G.only w hw
    exact ⟨k, by simpa using hk, e ▸ e2⟩
theorem opF_torn {D : Dk} (ho : D.off = false) {g n c : Nat} {was came : List Bs} {lp : List (List Bs)} {lb : List Bs} (G : Gen D.fl g (tornS lp lb came c)) (R : TornR n was came lp lb) (hg0 : 0 < g) (hg : g < 100) (hK : lp.length + 1 < 98) :
    ∃ c', Gen (opF D).2.1.fl g (tornS lp lb came c') ∧ (opF D).2.1.quota = D.quota ∧ (opF D).2.1.left ≤ D.left ∧ tot (opF D).2.1.fl ≤ tot D.fl ∧ ((frs came).take c = frs came → (frs came).take c' = frs came) ∧
      (D.armed = false → ∃ j, j ≤ came.length ∧ opF D = ((some ⟨g, lp.length + 1, false⟩, was ++ came.take j), (opF D).2.1, 0) ∧ (opF D).2.1.off = false ∧ ((frs came).take c = frs came → j = came.length)) := by
  obtain ⟨j, hj, hrd, hjl, hf1, hf2⟩ := readG_torn G R hg0 hg hK
  have hlen := tornS_len lp lb came c
  have hnames := G.names hg0 hg (by omega)
  have hlast : lookF (nmB g (lp.length + 1)) D.fl = some ⟨nmB g (lp.length + 1), frs lb ++ (frs came).take c, (frs lb ++ (frs came).take c).length⟩ := by
    have := G.seg lp.length (by omega)
    rw [this]; simp [tornS]
  have hne : D.fl ≠ [] := by intro e; rw [e] at hlast; cases hlast
  have hgr := grF_gen hg0 (fun nm hnm => by obtain ⟨k, hk, _⟩ := hnames nm hnm; exact ⟨k, hk⟩) hne (by rw [hrd])
  have hpl := powF_le D
  have hpf := powF_fl D
  have hnil : (frs lb ++ (frs came).take c).length = (frs lb).length + ((frs came).take c).length := List.length_append
  -- behind the cut: a disk whose last segment is whole or as it was
  have key : ∀ (D1 : Dk) (c1 : Nat), D1.off = false → Gen D1.fl g (tornS lp lb came c1) → D1.quota = D.quota → D1.left ≤ D.left → tot D1.fl ≤ tot D.fl → (D.armed = false → D1.armed = false) →
      clF (g, lp.length + 1) D1 = (D1, 0) ∧ Gen (syncF (nmB g (lp.length + 1)) D1).1.fl g (tornS lp lb came c1) ∧ (syncF (nmB g (lp.length + 1)) D1).1.quota = D.quota ∧ (syncF (nmB g (lp.length + 1)) D1).1.left ≤ D.left ∧ tot (syncF (nmB g (lp.length + 1)) D1).1.fl ≤ tot D.fl ∧ (D.armed = false → (syncF (nmB g (lp.length + 1)) D1).2 = 0 ∧ (syncF (nmB g (lp.length + 1)) D1).1.off = false) := by
    intro D1 c1 h1 G1 h2 h3 h4 h5
    have hlen1 := tornS_len lp lb came c1
    have hn1 := G1.names hg0 hg (by omega)
    rw [hlen1] at hn1
    have hp1 := powF_le D1
    have hpf1 := powF_fl D1
    have hl1 : lookF (nmB g (lp.length + 1)) D1.fl = some ⟨nmB g (lp.length + 1), frs lb ++ (frs came).take c1, (frs lb ++ (frs came).take c1).length⟩ := by
      have := G1.seg lp.length (by omega)
      rw [this]; simp [tornS]
    refine ⟨clN_stay g (lp.length + 1) D1 _ hn1, ?_⟩
    rcases sync_any h1 G1.srt hl1 with ⟨e1, e2⟩ | ⟨e1, F, e2, hs, hl, hnm, ht⟩
    · rw [e2]
      refine ⟨by rw [hpf1]; exact G1, by rw [hp1.2.1, h2], by omega, by rw [hpf1]; exact h4, fun ha => ?_⟩
      rw [powF_ok (h5 ha)] at e1; exact absurd rfl e1
    · rw [e2]
      refine ⟨?_, by simp only; rw [hp1.2.1, h2], by simp only; omega, by simp only; omega, fun ha => ⟨rfl, pow_off h1 e1⟩⟩
      have e3 : (lp.map frs).length = lp.length := by simp
      exact Gen.upd (init := lp.map frs) (x := frs lb ++ (frs came).take c1) G1 hg (by rw [e3]; omega) hs (fun nm' => by rw [hl, e3]; rfl) hnm
  unfold opF
  rw [hgr, if_neg (by omega), hrd]
  simp only [hlast, rdB, Option.map_some, Option.getD_some]
  by_cases hcut : (frs lb).length + (frs (came.take j)).length < (frs lb ++ (frs came).take c).length
  · simp only [if_pos hcut]
    rcases cut_any ho G.srt hlast (n := (frs lb).length + (frs (came.take j)).length) (by simp only; omega) with ⟨e1, e2⟩ | ⟨e1, F, e2, hs, hl, hnm, ht⟩
    · rw [e2]
      simp only [if_pos e1]
      refine ⟨c, by rw [hpf]; exact G, hpl.2.1, hpl.1, by rw [hpf]; exact Nat.le_refl _, fun h => h, fun ha => ?_⟩
      rw [powF_ok ha] at e1; exact absurd rfl e1
    · have hG1 : Gen F g (tornS lp lb came (frs (came.take j)).length) := by
        have e3 : (lp.map frs).length = lp.length := by simp
        refine Gen.upd (init := lp.map frs) (x := frs lb ++ (frs came).take c) (y := frs lb ++ (frs came).take (frs (came.take j)).length) G hg (by rw [e3]; omega) hs (fun nm' => ?_) hnm
        rw [hl, e3]
        have ey : (frs lb ++ (frs came).take c).take ((frs lb).length + (frs (came.take j)).length) = frs lb ++ (frs came).take (frs (came.take j)).length := by
          rw [List.take_length_add_append, List.take_take, Nat.min_eq_left]
          have : ((frs came).take c).length ≤ c := by rw [List.length_take]; omega
          omega
        have el : (frs lb ++ (frs came).take (frs (came.take j)).length).length = (frs lb).length + (frs (came.take j)).length := by rw [frs_take_le, List.length_append]
        unfold cutT
        simp only [ey, el, Nat.min_eq_right (Nat.le_of_lt hcut)]
      obtain ⟨k1, k2, k3, k4, k5, k6⟩ := key { (powF D).1 with fl := F } (frs (came.take j)).length (pow_off ho e1) hG1 hpl.2.1 hpl.1 (by simp only; omega) (fun ha => by rw [powF_ok ha]; exact ha)
      rw [e2]
      simp only [k1, ne_eq, not_true_eq_false, if_false]
      have hnf : ¬ (frs came).take c = frs came := fun h => by
        have := hf1 h
        subst this
        rw [List.take_length, h, ← List.length_append] at hcut
        omega
      refine ⟨(frs (came.take j)).length, ?_, ?_, ?_, ?_, fun h => absurd h hnf, fun ha => ⟨j, hj, ?_, ?_, fun h => absurd h hnf⟩⟩
      · split <;> exact k2
      · split <;> exact k3
      · split <;> exact k4
      · split <;> exact k5
      · rw [if_neg (by simp [(k6 ha).1])]
      · rw [if_neg (by simp [(k6 ha).1])]; exact (k6 ha).2
  · simp only [if_neg hcut, ne_eq, not_true_eq_false, if_false]
    obtain ⟨k1, k2, k3, k4, k5, k6⟩ := key D c ho G rfl (Nat.le_refl _) (Nat.le_refl _) (fun h => h)
    simp only [k1, ne_eq, not_true_eq_false, if_false]
    refine ⟨c, ?_, ?_, ?_, ?_, fun h => h, fun ha => ⟨j, hj, ?_, ?_, hf1⟩⟩
    · split <;> exact k2
    · split <;> exact k3
    · split <;> exact k4
    · split <;> exact k5
    · rw [if_neg (by simp [(k6 ha).1])]
    · rw [if_neg (by simp [(k6 ha).1])]; exact (k6 ha).2
end Go.Fw

set_option linter.unusedSimpArgs false
set_option linter.unusedVariables false
namespace Go.Fw
open Go.Proofs
/-! A generation under way to the next one. Plain. -/
theorem readG_look {fl : List Fl} {g n : Nat} {segs recs : List Bs} (hl : ∀ k (h : k < segs.length), ∃ kp, lookF (nmB g (k + 1)) fl = some ⟨nmB g (k + 1), segs[k], kp⟩) (he : lookF (nmB g (segs.length + 1)) fl = none) (R : SegR segs n recs) (hK : segs.length < 99) :
    ∃ sz, readG fl g = (recs, (g, segs.length), sz, true) ∧ 0 < segs.length ∧ sz = (rdB (lookF (nmB g segs.length) fl)).length := by
  obtain ⟨ls, rfl, hfl, hne, hok, hn, hnb⟩ := R
  have hlen : (ls.map frs).length = ls.length := by simp
  have hlpos : 0 < ls.length := by
    cases ls with
    | nil => simp at hfl
    | cons _ _ => simp
  rw [hlen] at he hK
  have := segN_ls fl g ls 1 99 [] 0 0 (fun j h => by
      obtain ⟨kp, h1⟩ := hl j (by simpa using h)
      exact ⟨kp, by rw [Nat.add_comm 1 j, h1, List.getElem_map]⟩) (by rw [Nat.add_comm 1]; exact he) (SegR.ok (segs := ls.map frs) hfl hok) (fun _ => hne) rfl (by omega)
  obtain ⟨kp, hlast⟩ := hl (ls.length - 1) (by simp; omega)
  rw [show ls.length - 1 + 1 = ls.length from by omega] at hlast
  refine ⟨lastSz 0 ls, ?_, by rw [hlen]; exact hlpos, ?_⟩
  · unfold readG
    rw [this]
    simp only [List.nil_append, Nat.zero_add, hlen]
    rw [hfl, if_pos (hdr_ok n recs hn hnb)]
    unfold plC
    rw [if_neg (by omega)]; rfl
  · rw [hlen, hlast, lastSz_get ls 0 (ls.length - 1) (by omega) (by omega)]
    simp [rdB]
theorem hdR_frs (l : List Bs) : hdR l = frs (numB (l.length : Nat) :: l) := by
  rw [frs_cons, hdR, frO, if_pos (numB_ok _)]
theorem segR_new (l : List Bs) (hok : ∀ p ∈ l, okR p) (hn : l.length < 1000000000) : SegR [hdR l] l.length l :=
  ⟨[numB (l.length : Nat) :: l], by rw [hdR_frs]; rfl, by simp, fun a b hab => by simp at hab; rw [← hab.1]; simp, hok, Nat.le_refl _, hn⟩
/-- a beginning of the new generation is not whole -/
theorem readG_part {fl : List Fl} {g c kp : Nat} {came : List Bs} (hl : lookF (nmB g 1) fl = some ⟨nmB g 1, (hdR came).take c, kp⟩) (h2 : lookF (nmB g 2) fl = none) (hok : ∀ p ∈ came, okR p) (hn : came.length < 1000000000) (hnf : (hdR came).take c ≠ hdR came) : (readG fl g).2.2.2 = false := by
  rw [hdR_frs] at hl hnf
  obtain ⟨j, h1, h2', h3, h4, h5⟩ := scan_cut (numB (came.length : Nat) :: came) c fun p hp => by
    rcases List.mem_cons.1 hp with rfl | hp
    · exact numB_ok _
    · exact hok p hp
  have hj : j < came.length + 1 := by
    rcases Nat.lt_or_eq_of_le h1 with h | h
    · simpa using h
    · exact absurd (h5 h) hnf
  have e99 : segN fl g 99 1 [] 0 0 = segN fl g ((97 + 1) + 1) 1 [] 0 0 := rfl
  have e98 : ∀ all lk sz, segN fl g (97 + 1) (1 + 1) all lk sz = some (all, lk, sz) := fun all lk sz => by
    rw [segN, show lookF (nmB g (1 + 1)) fl = none from h2]
  cases j with
  | zero =>
    have hseg : segN fl g 99 1 [] 0 0 = none := by
      rw [e99, segN, hl]
      simp [h2']
    unfold readG
    rw [hseg]
  | succ j =>
    have hseg : segN fl g 99 1 [] 0 0 = some (numB (came.length : Nat) :: came.take j, 1, (frs (numB (came.length : Nat) :: came.take j)).length) := by
      rw [e99, segN, hl]
      simp only [h2']
      rw [if_neg (by simp)]
      split
      · simp
      · rw [e98]; simp
    have hh : hdrOk (numB (came.length : Nat) :: came.take j) = false := by
      show decide ((((⟨0, 0⟩ : RS).num (numB (came.length : Nat))).2.fin (numB (came.length : Nat))).wr = 0 ∧ 0 ≤ ((⟨0, 0⟩ : RS).num (numB (came.length : Nat))).1 ∧ ((⟨0, 0⟩ : RS).num (numB (came.length : Nat))).1 ≤ (came.take j).length) = false
      rw [num_rd came.length hn, decide_eq_false_iff_not, List.length_take]
      simp only
      rintro ⟨_, _, h⟩
      omega
    unfold readG
    rw [hseg]
    simp [hh]
structure NewS (fl : List Fl) (g : Nat) (segs : List Bs) (T : Bs) : Prop where
  srt : Srt fl
  old : ∀ k (h : k < segs.length), lookF (nmB g (k + 1)) fl = none ∨ lookF (nmB g (k + 1)) fl = some ⟨nmB g (k + 1), segs[k], segs[k].length⟩
  new : lookF (nmB (g + 1) 1) fl = none ∨ ∃ c, lookF (nmB (g + 1) 1) fl = some ⟨nmB (g + 1) 1, T.take c, (T.take c).length⟩
  only : ∀ x ∈ fl, (∃ k, k < segs.length ∧ x.name = nmB g (k + 1)) ∨ x.name = nmB (g + 1) 1
  safe : (∀ k (h : k < segs.length), lookF (nmB g (k + 1)) fl = some ⟨nmB g (k + 1), segs[k], segs[k].length⟩) ∨ lookF (nmB (g + 1) 1) fl = some ⟨nmB (g + 1) 1, T, T.length⟩
def NewF (fl : List Fl) (g : Nat) (T : Bs) : Prop := lookF (nmB (g + 1) 1) fl = some ⟨nmB (g + 1) 1, T, T.length⟩
theorem NewS.noF {fl : List Fl} {g : Nat} {segs : List Bs} {T : Bs} (N : NewS fl g segs T) (hg : g < 99) (hK : segs.length < 98) {g' k' : Nat} (hg' : g' < 100) (hk' : k' < 100) (h : ¬ (g' = g ∧ 0 < k' ∧ k' ≤ segs.length) ∧ ¬ (g' = g + 1 ∧ k' = 1)) : lookF (nmB g' k') fl = none := by
  cases hl : lookF (nmB g' k') fl with
  | none => rfl
  | some x =>
    obtain ⟨hx, hn⟩ := look_name hl
    exfalso
    rcases N.only x hx with ⟨k, hk, e⟩ | e
    · rw [hn] at e
      obtain ⟨e1, e2⟩ := nmB_inj hg' hk' (by omega) (by omega) e
      exact h.1 ⟨e1, by omega, by omega⟩
    · rw [hn] at e
      obtain ⟨e1, e2⟩ := nmB_inj hg' hk' (by omega) (by omega) e
      exact h.2 ⟨e1, e2⟩
theorem NewS.pls {fl : List Fl} {g : Nat} {segs : List Bs} {T : Bs} (N : NewS fl g segs T) (hg0 : 0 < g) (hg : g < 99) (hK : segs.length < 98) : ∀ nm ∈ fl.map Fl.name, (∃ k, k < segs.length ∧ nm = nmB g (k + 1) ∧ plF nm = some (g, k + 1)) ∨ (nm = nmB (g + 1) 1 ∧ plF nm = some (g + 1, 1)) := fun nm hnm => by
  obtain ⟨x, hx, rfl⟩ := List.mem_map.1 hnm
  rcases N.only x hx with ⟨k, hk, e⟩ | e
  · exact .inl ⟨k, hk, e, by rw [e]; exact plF_nm hg0 (by omega) (by omega) (by omega)⟩
  · exact .inr ⟨e, by rw [e]; exact plF_nm (by omega) (by omega) (by omega) (by omega)⟩
theorem grN_top (fl : List Fl) (G : Nat) (hw : (readG fl G).2.2.2 = true) : ∀ (l : List Bs) (best : Nat), best ≤ G → (∀ nm ∈ l, ∃ p, plF nm = some p ∧ p.1 ≤ G) → (best = G ∨ ∃ nm ∈ l, ∃ k, plF nm = some (G, k)) → grN fl l best = G
  | [], best, _, _, h => by
    rcases h with h | ⟨_, hm, _⟩
    · exact h
    · cases hm
  | nm :: r, best, hb, hp, h => by
    obtain ⟨p, hpp, hle⟩ := hp nm (List.mem_cons_self ..)
    have hp' := fun x hx => hp x (List.mem_cons_of_mem _ hx)
    have hrest : ∀ b, b ≤ G → (b = G ∨ ¬ p.1 = G) → (best = G → b = G) → grN fl r b = G := fun b hb hbp hbb => by
      refine grN_top fl G hw r b hb hp' ?_
      rcases h with h | ⟨x, hx, k, hk⟩
      · exact .inl (hbb h)
      · rcases List.mem_cons.1 hx with rfl | hx
        · rw [hpp] at hk
          have : p.1 = G := by cases hk; rfl
          rcases hbp with h1 | h1
          · exact .inl h1
          · exact absurd this h1
        · exact .inr ⟨x, hx, k, hk⟩
    unfold grN
    rw [hpp]
    simp only
    split
    · rename_i h1
      exact hrest best hb (by by_cases e : p.1 = G; · left; omega
                              · exact .inr e) fun h => h
    · split
      · exact hrest p.1 hle (by by_cases e : p.1 = G; · exact .inl e
                                · exact .inr e) (by omega)
      · rename_i h1 h2
        refine hrest best hb (.inr fun e => ?_) fun h => h
        rw [e, hw] at h2
        exact h2 rfl
theorem grN_low (fl : List Fl) (g : Nat) (hw : (readG fl g).2.2.2 = true) (hn : (readG fl (g + 1)).2.2.2 = false) (hg0 : 0 < g) : ∀ (l : List Bs) (best : Nat), best = 0 ∨ best = g → (∀ nm ∈ l, ∃ p, plF nm = some p ∧ (p.1 = g ∨ p.1 = g + 1)) → (best = g ∨ ∃ nm ∈ l, ∃ k, plF nm = some (g, k)) → grN fl l best = g
  | [], best, _, _, h => by
    rcases h with h | ⟨_, hm, _⟩
    · exact h
    · cases hm
  | nm :: r, best, hb, hp, h => by
    obtain ⟨p, hpp, hle⟩ := hp nm (List.mem_cons_self ..)
    have hp' := fun x hx => hp x (List.mem_cons_of_mem _ hx)
    unfold grN
    rw [hpp]
    simp only
    rcases hle with e | e
    · rw [e]
      rcases hb with rfl | rfl
      · rw [if_neg (by omega), if_pos hw]
        exact grN_low fl g hw hn hg0 r g (.inr rfl) hp' (.inl rfl)
      · rw [if_pos (Nat.le_refl _)]
        exact grN_low fl best hw hn hg0 r best (.inr rfl) hp' (.inl rfl)
    · rw [e, if_neg (by omega), hn]
      simp only [Bool.false_eq_true, if_false]
      refine grN_low fl g hw hn hg0 r best hb hp' ?_
      rcases h with h | ⟨x, hx, k, hk⟩
      · exact .inl h
      · rcases List.mem_cons.1 hx with rfl | hx
        · rw [hpp] at hk
          have : p.1 = g := by cases hk; rfl
          omega
        · exact .inr ⟨x, hx, k, hk⟩
end Go.Fw

set_option linter.unusedSimpArgs false
set_option linter.unusedVariables false
namespace Go.Fw
open Go.Proofs
/-- what a clean leaves of a disk -/
structure ClR (D D' : Dk) (e : Nat) : Prop where
  quota : D'.quota = D.quota
  left : D'.left ≤ D.left
  tt : tot D'.fl ≤ tot D.fl
  off : e = 0 → D'.off = false
  ok : D.armed = false → e = 0 ∧ D'.armed = false
theorem ClR.refl {D : Dk} (h : D.off = false) : ClR D D 0 := ⟨rfl, Nat.le_refl _, Nat.le_refl _, fun _ => h, fun h => ⟨rfl, h⟩⟩
theorem ClR.pow {D : Dk} (h : (powF D).2 ≠ 0) : ClR D (powF D).1 (powF D).2 :=
  ⟨(powF_le D).2.1, (powF_le D).1, by rw [powF_fl D]; exact Nat.le_refl _, fun e => absurd e h, fun ha => by rw [powF_ok ha] at h; exact absurd rfl h⟩
theorem ClR.trans {D D1 D2 : Dk} {e : Nat} (h : ClR D D1 0) (g : ClR D1 D2 e) : ClR D D2 e :=
  ⟨g.quota.trans h.quota, Nat.le_trans g.left h.left, Nat.le_trans g.tt h.tt, g.off, fun ha => g.ok (h.ok ha).2⟩
theorem ClR.step {D : Dk} {F : List Fl} (ho : D.off = false) (h : (powF D).2 = 0) (ht : tot F ≤ tot D.fl) : ClR D { (powF D).1 with fl := F } 0 :=
  ⟨(powF_le D).2.1, (powF_le D).1, ht, fun _ => pow_off ho h, fun ha => ⟨rfl, by rw [powF_ok ha]; exact ha⟩⟩
theorem NewS.del_old {fl F : List Fl} {g : Nat} {segs : List Bs} {T : Bs} (N : NewS fl g segs T) (hf : NewF fl g T) (hg : g < 99) (hK : segs.length < 98) {k0 : Nat} (hk0 : k0 < segs.length) (hs : Srt F) (hl : ∀ nm', lookF nm' F = if nm' = nmB g (k0 + 1) then none else lookF nm' fl) (hm : ∀ y ∈ F, y ∈ fl) : NewS F g segs T ∧ NewF F g T := by
  have hne : nmB (g + 1) 1 ≠ nmB g (k0 + 1) := fun h => by have := (nmB_inj (by omega) (by omega) (by omega) (by omega) h).1; omega
  have hF : NewF F g T := by unfold NewF; rw [hl, if_neg hne]; exact hf
  refine ⟨⟨hs, fun k hk => ?_, .inr ⟨T.length, ?_⟩, fun x hx => N.only x (hm x hx), .inr hF⟩, hF⟩
  · rw [hl]
    split
    · exact .inl rfl
    · exact N.old k hk
  · rw [List.take_length]; exact hF
theorem NewS.del_new {fl F : List Fl} {g : Nat} {segs : List Bs} {T : Bs} (N : NewS fl g segs T) (ha : ∀ k (h : k < segs.length), lookF (nmB g (k + 1)) fl = some ⟨nmB g (k + 1), segs[k], segs[k].length⟩) (hg : g < 99) (hK : segs.length < 98) (hs : Srt F) (hl : ∀ nm', lookF nm' F = if nm' = nmB (g + 1) 1 then none else lookF nm' fl) (hm : ∀ y ∈ F, y ∈ fl) :
    NewS F g segs T ∧ ∀ k (h : k < segs.length), lookF (nmB g (k + 1)) F = some ⟨nmB g (k + 1), segs[k], segs[k].length⟩ := by
  have ha' : ∀ k (h : k < segs.length), lookF (nmB g (k + 1)) F = some ⟨nmB g (k + 1), segs[k], segs[k].length⟩ := fun k hk => by
    rw [hl, if_neg (fun h => by have := (nmB_inj (by omega) (by omega) (by omega) (by omega) h).1; omega)]
    exact ha k hk
  exact ⟨⟨hs, fun k hk => .inr (ha' k hk), .inl (by rw [hl, if_pos rfl]), fun x hx => N.only x (hm x hx), .inl ha'⟩, ha'⟩
theorem clN_full {g : Nat} {segs : List Bs} {T : Bs} (hg : g < 99) (hK : segs.length < 98) : ∀ (l : List Bs) (D : Dk), D.off = false → NewS D.fl g segs T → NewF D.fl g T → l.Nodup →
    (∀ nm ∈ l, (∃ k, k < segs.length ∧ nm = nmB g (k + 1) ∧ plF nm = some (g, k + 1) ∧ (lookF nm D.fl).isSome) ∨ (nm = nmB (g + 1) 1 ∧ plF nm = some (g + 1, 1))) →
    NewS (clN (g + 1, 1) l D).1.fl g segs T ∧ NewF (clN (g + 1, 1) l D).1.fl g T ∧ ClR D (clN (g + 1, 1) l D).1 (clN (g + 1, 1) l D).2
  | [], D, ho, N, hf, _, _ => ⟨N, hf, ClR.refl ho⟩
  | nm :: r, D, ho, N, hf, hn, hp => by
    obtain ⟨hn1, hn2⟩ := List.nodup_cons.1 hn
    have hp' := fun x hx => hp x (List.mem_cons_of_mem nm hx)
    rcases hp nm (List.mem_cons_self ..) with ⟨k, hk, e1, e2, e3⟩ | ⟨e1, e2⟩
    · obtain ⟨f, hlf⟩ := Option.isSome_iff_exists.1 e3
      unfold clN
      rw [e2]
      simp only
      rw [if_neg (by omega)]
      rcases rm_any ho N.srt hlf with ⟨q1, q2⟩ | ⟨q1, F, q2, qs, ql, qt, qm⟩
      · rw [q2, if_pos q1]
        exact ⟨by rw [powF_fl]; exact N, by rw [powF_fl]; exact hf, ClR.pow q1⟩
      · rw [q2]
        simp only [ne_eq, not_true_eq_false, if_false]
        rw [e1] at ql
        obtain ⟨N2, hf2⟩ := N.del_old hf hg hK hk qs ql qm
        obtain ⟨r1, r2, r3⟩ := clN_full hg hK r { (powF D).1 with fl := F } (pow_off ho q1) N2 hf2 hn2 fun x hx => by
          rcases hp' x hx with ⟨k2, h2, h3, h4, h5⟩ | h
          · refine .inl ⟨k2, h2, h3, h4, ?_⟩
            simp only
            rw [ql, if_neg (fun h => hn1 (by rw [e1, ← h]; exact hx))]
            exact h5
          · exact .inr h
        exact ⟨r1, r2, (ClR.step ho q1 qt).trans r3⟩
    · unfold clN
      rw [e2]
      simp only [Nat.le_refl, and_self, if_true]
      exact clN_full hg hK r D ho N hf hn2 hp'
theorem clN_part {g : Nat} {segs : List Bs} {T : Bs} (hg : g < 99) (hK : segs.length < 98) : ∀ (l : List Bs) (D : Dk), D.off = false → NewS D.fl g segs T → (∀ k (h : k < segs.length), lookF (nmB g (k + 1)) D.fl = some ⟨nmB g (k + 1), segs[k], segs[k].length⟩) → l.Nodup →
    (∀ nm ∈ l, (∃ k, k < segs.length ∧ nm = nmB g (k + 1) ∧ plF nm = some (g, k + 1)) ∨ (nm = nmB (g + 1) 1 ∧ plF nm = some (g + 1, 1) ∧ (lookF nm D.fl).isSome)) →
    NewS (clN (g, segs.length) l D).1.fl g segs T ∧ (∀ k (h : k < segs.length), lookF (nmB g (k + 1)) (clN (g, segs.length) l D).1.fl = some ⟨nmB g (k + 1), segs[k], segs[k].length⟩) ∧ ClR D (clN (g, segs.length) l D).1 (clN (g, segs.length) l D).2
  | [], D, ho, N, hf, _, _ => ⟨N, hf, ClR.refl ho⟩
  | nm :: r, D, ho, N, hf, hn, hp => by
    obtain ⟨hn1, hn2⟩ := List.nodup_cons.1 hn
    have hp' := fun x hx => hp x (List.mem_cons_of_mem nm hx)
    rcases hp nm (List.mem_cons_self ..) with ⟨k, hk, e1, e2⟩ | ⟨e1, e2, e3⟩
    · unfold clN
      rw [e2]
      simp only
      have hk2 : k + 1 ≤ segs.length := by omega
      simp only [hk2, and_self, if_true]
      exact clN_part hg hK r D ho N hf hn2 hp'
    · obtain ⟨f, hlf⟩ := Option.isSome_iff_exists.1 e3
      unfold clN
      rw [e2]
      simp only
      rw [if_neg (by omega)]
      rcases rm_any ho N.srt hlf with ⟨q1, q2⟩ | ⟨q1, F, q2, qs, ql, qt, qm⟩
      · rw [q2, if_pos q1]
        exact ⟨by rw [powF_fl]; exact N, by rw [powF_fl]; exact hf, ClR.pow q1⟩
      · rw [q2]
        simp only [ne_eq, not_true_eq_false, if_false]
        rw [e1] at ql
        obtain ⟨N2, hf2⟩ := N.del_new hf hg hK qs ql qm
        obtain ⟨r1, r2, r3⟩ := clN_part hg hK r { (powF D).1 with fl := F } (pow_off ho q1) N2 hf2 hn2 fun x hx => by
          rcases hp' x hx with h | ⟨h3, h4, h5⟩
          · exact .inl h
          · exact absurd (by rw [e1, ← h3]; exact hx) hn1
        exact ⟨r1, r2, (ClR.step ho q1 qt).trans r3⟩
theorem srt_nodup {l : List Fl} (h : Srt l) : (l.map Fl.name).Nodup := h.imp (S := (· ≠ ·)) (by intro a b h e; rw [e, bl_irr] at h; cases h)
theorem NewS.sync {fl F : List Fl} {g : Nat} {segs : List Bs} {T : Bs} (N : NewS fl g segs T) {nm : Bs} {f : Fl} (hlf : lookF nm fl = some f) (hkf : f.kept = f.b.length) (hs : Srt F) (hl : ∀ nm', lookF nm' F = if nm' = nm then some (keptF f) else lookF nm' fl) (hn : F.map Fl.name = fl.map Fl.name) : NewS F g segs T ∧ ∀ nm', lookF nm' F = lookF nm' fl := by
  have he : ∀ nm', lookF nm' F = lookF nm' fl := fun nm' => by
    rw [hl]
    split
    · rename_i e
      rw [e, hlf]
      obtain ⟨a, b, c⟩ := f
      simp only at hkf
      subst hkf; rfl
    · rfl
  refine ⟨⟨hs, fun k hk => by rw [he]; exact N.old k hk, by rw [he]; exact N.new, fun x hx => ?_, ?_⟩, he⟩
  · obtain ⟨y, hy, e⟩ := names_mem hn hx
    rw [← e]; exact N.only y hy
  · rcases N.safe with h | h
    · exact .inl fun k hk => by rw [he]; exact h k hk
    · exact .inr (by rw [he]; exact h)
end Go.Fw

set_option linter.unusedSimpArgs false
set_option linter.unusedVariables false
namespace Go.Fw
open Go.Proofs
/-- behind clean: the sync -/
theorem sync_new {D : Dk} (ho : D.off = false) {g : Nat} {segs : List Bs} {T : Bs} (N : NewS D.fl g segs T) {nm : Bs} {f : Fl} (hlf : lookF nm D.fl = some f) (hkf : f.kept = f.b.length) :
    NewS (syncF nm D).1.fl g segs T ∧ (∀ nm', lookF nm' (syncF nm D).1.fl = lookF nm' D.fl) ∧ ClR D (syncF nm D).1 (syncF nm D).2 := by
  rcases sync_any ho N.srt hlf with ⟨q1, q2⟩ | ⟨q1, F, q2, qs, ql, qn, qt⟩
  · rw [q2]
    exact ⟨by rw [powF_fl]; exact N, fun nm' => by rw [powF_fl], ClR.pow q1⟩
  · rw [q2]
    obtain ⟨h1, h2⟩ := N.sync hlf hkf qs ql qn
    exact ⟨h1, h2, ClR.step ho q1 (Nat.le_of_eq qt)⟩
theorem opF_new {D : Dk} (ho : D.off = false) {g n : Nat} {segs was came : List Bs} (N : NewS D.fl g segs (hdR came)) (R : SegR segs n was) (hg0 : 0 < g) (hg : g < 98) (hK : segs.length < 98) (hok : ∀ p ∈ came, okR p) (hn : came.length < 1000000000) :
    NewS (opF D).2.1.fl g segs (hdR came) ∧ (opF D).2.1.quota = D.quota ∧ (opF D).2.1.left ≤ D.left ∧ tot (opF D).2.1.fl ≤ tot D.fl ∧ (NewF D.fl g (hdR came) → NewF (opF D).2.1.fl g (hdR came)) ∧
      (D.armed = false → ∃ W recs, opF D = ((some W, recs), (opF D).2.1, 0) ∧ (opF D).2.1.off = false ∧ (NewF D.fl g (hdR came) → recs = came) ∧ (recs = was ∨ recs = came)) := by
  have hpls := N.pls hg0 (by omega) hK
  have hnd := srt_nodup N.srt
  by_cases hfull : NewF D.fl g (hdR came)
  · -- the new generation is whole
    obtain ⟨sz, hrd, _, hsz⟩ := readG_look (fl := D.fl) (g := g + 1) (segs := [hdR came]) (fun k hk => by
        have : k = 0 := by simpa using hk
        subst this; exact ⟨_, hfull⟩) (N.noF (by omega) hK (by omega) (by simp) (by simp)) (segR_new came hok hn) (by simp)
    have hmem : ∃ nm ∈ D.fl.map Fl.name, ∃ k, plF nm = some (g + 1, k) := by
      obtain ⟨hx, hxn⟩ := look_name hfull
      exact ⟨nmB (g + 1) 1, List.mem_map.2 ⟨_, hx, rfl⟩, 1, plF_nm (by omega) (by omega) (by omega) (by omega)⟩
    have hgr : grF D.fl = g + 1 := grN_top D.fl (g + 1) (by rw [hrd]) _ 0 (by omega) (fun nm hnm => by
      rcases hpls nm hnm with ⟨k, _, _, h⟩ | ⟨_, h⟩
      · exact ⟨_, h, by simp⟩
      · exact ⟨_, h, by simp⟩) (.inr hmem)
    obtain ⟨c1, c2, c3⟩ := clN_full (by omega) hK (D.fl.map Fl.name) D ho N hfull hnd fun nm hnm => by
      rcases hpls nm hnm with ⟨k, hk, h1, h2⟩ | h
      · refine .inl ⟨k, hk, h1, h2, ?_⟩
        obtain ⟨x, hx, rfl⟩ := List.mem_map.1 hnm
        rw [mem_look N.srt hx]; rfl
      · exact .inr h
    rw [show clN (g + 1, 1) (D.fl.map Fl.name) D = clF (g + 1, 1) D from rfl] at c1 c2 c3
    have hnc : ¬ sz < (rdB (lookF (nmB (g + 1) 1) D.fl)).length := by
      rw [hsz]; simp
    unfold opF
    rw [hgr, if_neg (by omega), hrd]
    simp only [List.length_singleton, if_neg hnc, ne_eq, not_true_eq_false, if_false]
    by_cases he : (clF (g + 1, 1) D).2 = 0
    · have hoff := c3.off he
      obtain ⟨s1, s2, s3⟩ := sync_new hoff c1 c2 rfl
      rw [he] at c3
      have c4 := c3.trans s3
      simp only [he, not_true_eq_false, if_false]
      refine ⟨?_, ?_, ?_, ?_, fun _ => ?_, fun ha => ⟨⟨g + 1, 1, false⟩, came, ?_, ?_, fun _ => rfl, .inr rfl⟩⟩
      · split <;> exact s1
      · split <;> exact c4.quota
      · split <;> exact c4.left
      · split <;> exact c4.tt
      · split <;> (unfold NewF; rw [s2]; exact c2)
      · rw [if_neg (by simp [(c4.ok ha).1])]
      · rw [if_neg (by simp [(c4.ok ha).1])]; exact c4.off (c4.ok ha).1
    · simp only [he, not_false_eq_true, if_true]
      exact ⟨c1, c3.quota, c3.left, c3.tt, fun _ => c2, fun ha => absurd (c3.ok ha).1 he⟩
  · -- the old one is there whole
    have hall := N.safe.resolve_right hfull
    obtain ⟨sz, hrd, hpos, hsz⟩ := readG_look (fl := D.fl) (g := g) (segs := segs) (fun k hk => ⟨_, hall k hk⟩) (N.noF (by omega) hK (by omega) (by omega) (by omega)) R (by omega)
    have h2 := N.noF (by omega) hK (g' := g + 1) (k' := 2) (by omega) (by omega) (by omega)
    have hno : (readG D.fl (g + 1)).2.2.2 = false := by
      rcases N.new with h | ⟨c, h⟩
      · have hseg : segN D.fl (g + 1) 99 1 [] 0 0 = some ([], 0, 0) := by
          rw [show segN D.fl (g + 1) 99 1 [] 0 0 = segN D.fl (g + 1) (98 + 1) 1 [] 0 0 from rfl, segN, h]
        unfold readG
        rw [hseg]
        rfl
      · exact readG_part h h2 hok hn fun e => hfull (by unfold NewF; rw [h, e])
    have hmem : ∃ nm ∈ D.fl.map Fl.name, ∃ k, plF nm = some (g, k) := by
      have := hall 0 hpos
      obtain ⟨hx, hxn⟩ := look_name this
      exact ⟨nmB g 1, List.mem_map.2 ⟨_, hx, rfl⟩, 1, plF_nm hg0 (by omega) (by omega) (by omega)⟩
    have hgr : grF D.fl = g := grN_low D.fl g (by rw [hrd]) hno hg0 _ 0 (.inl rfl) (fun nm hnm => by
      rcases hpls nm hnm with ⟨k, _, _, h⟩ | ⟨_, h⟩
      · exact ⟨_, h, .inl rfl⟩
      · exact ⟨_, h, .inr rfl⟩) (.inr hmem)
    obtain ⟨c1, c2, c3⟩ := clN_part (by omega) hK (D.fl.map Fl.name) D ho N hall hnd fun nm hnm => by
      rcases hpls nm hnm with h | ⟨h1, h2⟩
      · exact .inl h
      · refine .inr ⟨h1, h2, ?_⟩
        obtain ⟨x, hx, rfl⟩ := List.mem_map.1 hnm
        rw [mem_look N.srt hx]; rfl
    rw [show clN (g, segs.length) (D.fl.map Fl.name) D = clF (g, segs.length) D from rfl] at c1 c2 c3
    have hnc : ¬ sz < (rdB (lookF (nmB g segs.length) D.fl)).length := by omega
    have hlast := c2 (segs.length - 1) (by omega)
    rw [show segs.length - 1 + 1 = segs.length from by omega] at hlast
    unfold opF
    rw [hgr, if_neg (by omega), hrd]
    simp only [if_neg hnc, ne_eq, not_true_eq_false, if_false]
    by_cases he : (clF (g, segs.length) D).2 = 0
    · have hoff := c3.off he
      obtain ⟨s1, s2, s3⟩ := sync_new hoff c1 hlast rfl
      rw [he] at c3
      have c4 := c3.trans s3
      simp only [he, not_true_eq_false, if_false]
      refine ⟨?_, ?_, ?_, ?_, fun h => absurd h hfull, fun ha => ⟨⟨g, segs.length, false⟩, was, ?_, ?_, fun h => absurd h hfull, .inl rfl⟩⟩
      · split <;> exact s1
      · split <;> exact c4.quota
      · split <;> exact c4.left
      · split <;> exact c4.tt
      · rw [if_neg (by simp [(c4.ok ha).1])]
      · rw [if_neg (by simp [(c4.ok ha).1])]; exact c4.off (c4.ok ha).1
    · simp only [he, not_false_eq_true, if_true]
      exact ⟨c1, c3.quota, c3.left, c3.tt, fun h => absurd h hfull, fun ha => absurd (c3.ok ha).1 he⟩
end Go.Fw

set_option linter.unusedSimpArgs false
set_option linter.unusedVariables false
namespace Go.Fw
open Go.Proofs
/-! Writes with a failing power, and the crash behind them. Plain. -/
theorem crh_names : ∀ (l : List Fl) (h : Nat → Nat), (l.mapIdx fun i f => crT (h i) f).map Fl.name = l.map Fl.name
  | [], _ => rfl
  | x :: r, h => by
    rw [List.mapIdx_cons, List.map_cons, List.map_cons, crh_names r fun i => h (i + 1)]; rfl
theorem crL_names (ps : List Int) (l : List Fl) : (crL ps l).map Fl.name = l.map Fl.name := crh_names l _
theorem crL_srt {ps : List Int} {l : List Fl} (h : Srt l) : Srt (crL ps l) := by unfold Srt; rw [crL_names]; exact h
theorem look_crh (nm : Bs) : ∀ (l : List Fl) (h : Nat → Nat), ∃ p, lookF nm (l.mapIdx fun i f => crT (h i) f) = (lookF nm l).map (crT p)
  | [], _ => ⟨0, rfl⟩
  | x :: r, h => by
    obtain ⟨p, hp⟩ := look_crh nm r fun i => h (i + 1)
    rw [List.mapIdx_cons, look_cons, look_cons, show (crT (h 0) x).name = x.name from rfl]
    split
    · exact ⟨p, hp⟩
    · split
      · exact ⟨h 0, rfl⟩
      · exact ⟨0, rfl⟩
theorem look_cr (nm : Bs) (ps : List Int) (l : List Fl) : ∃ p, lookF nm (crL ps l) = (lookF nm l).map (crT p) := look_crh nm l _
theorem crT_kept {p : Nat} {f : Fl} (h : f.kept = f.b.length) : crT p f = f := by
  obtain ⟨nm, b, k⟩ := f
  simp only at h
  subst h
  simp [crT, crN, Nat.mod_one]
theorem crh_tot : ∀ (l : List Fl) (h : Nat → Nat), tot (l.mapIdx fun i f => crT (h i) f) ≤ tot l
  | [], _ => Nat.le_refl _
  | x :: r, h => by
    have := crh_tot r fun i => h (i + 1)
    rw [List.mapIdx_cons]
    simp only [tot, List.map_cons, List.sum_cons] at *
    have h2 : (crT (h 0) x).b.length ≤ x.b.length := by simp [crT]; omega
    omega
theorem crL_tot (ps : List Int) (l : List Fl) : tot (crL ps l) ≤ tot l := crh_tot l _
theorem crL_kept {ps : List Int} {l : List Fl} (h : ∀ f ∈ l, f.kept = f.b.length) : crL ps l = l := List.ext_getElem? fun i => by
  unfold crL
  rw [List.getElem?_mapIdx]
  cases e : l[i]? with
  | none => rfl
  | some f => rw [Option.map_some, crT_kept (h f (List.mem_of_getElem? e))]
theorem crL_allk {ps : List Int} {l : List Fl} (h : ∀ f ∈ l, f.kept ≤ f.b.length) : ∀ f ∈ crL ps l, f.kept = f.b.length := fun f hf => by
  obtain ⟨i, hi⟩ := List.getElem?_of_mem hf
  unfold crL at hi
  rw [List.getElem?_mapIdx] at hi
  cases e : l[i]? with
  | none => rw [e] at hi; cases hi
  | some x =>
    rw [e] at hi
    cases hi
    have := crN_le (pkN ps i) x (h x (List.mem_of_getElem? e))
    simp only [crT, List.length_take]; omega
/-- what a write leaves -/
structure WrR (nm p : Bs) (D D' : Dk) (e : Nat) : Prop where
  quota : D'.quota = D.quota
  left : D'.left ≤ D.left
  out : (e ≠ 0 ∧ D'.fl = D.fl) ∨ ∃ kp, Srt D'.fl ∧ (∀ nm', lookF nm' D'.fl = if nm' = nm then some ⟨nm, rdB (lookF nm D.fl) ++ p, kp⟩ else lookF nm' D.fl) ∧ (kp = ((lookF nm D.fl).map Fl.kept).getD 0 ∨ kp = (rdB (lookF nm D.fl) ++ p).length) ∧
    tot D'.fl = tot D.fl + p.length ∧ (∀ y ∈ D'.fl, y.name = nm ∨ ∃ x ∈ D.fl, x.name = y.name) ∧ (e = 0 → kp = (rdB (lookF nm D.fl) ++ p).length ∧ D'.off = false)
theorem apd_any {D : Dk} (ho : D.off = false) (hs : Srt D.fl) (nm p : Bs) (hr : tot D.fl + p.length ≤ D.quota) : ((powF D).2 ≠ 0 ∧ apdF nm p D = powF D) ∨ ((powF D).2 = 0 ∧ ∃ F, apdF nm p D = ({ (powF D).1 with fl := F }, 0) ∧ Srt F ∧
    (∀ nm', lookF nm' F = if nm' = nm then some ⟨nm, rdB (lookF nm D.fl) ++ p, ((lookF nm D.fl).map Fl.kept).getD 0⟩ else lookF nm' D.fl) ∧ tot F = tot D.fl + p.length ∧ ∀ y ∈ F, y.name = nm ∨ ∃ x ∈ D.fl, x.name = y.name) := by
  by_cases hp : (powF D).2 = 0
  · refine .inr ⟨hp, ?_⟩
    have h := apd_up (D := ⟨D.quota, D.fl, false, false, 0⟩) ⟨rfl, rfl, hs⟩ nm p hr
    unfold apdF at h ⊢
    rw [if_neg (by simp [ho]), if_neg (by omega), if_neg (by simp [hp])]
    rw [if_neg (by simp), if_neg (by simp only; omega), powF_ok rfl, if_neg (by simp)] at h
    obtain ⟨F, e, h2⟩ := h
    have e2 := congrArg (fun x => x.1.fl) e
    simp only at e2
    exact ⟨F, by rw [e2], h2⟩
  · refine .inl ⟨hp, ?_⟩
    unfold apdF
    rw [if_neg (by simp [ho]), if_neg (by omega), if_pos hp]
theorem wr_any {D : Dk} (ho : D.off = false) (hs : Srt D.fl) (nm p : Bs) (W : Wl) (hr : tot D.fl + p.length ≤ D.quota) : WrR nm p D (wrF nm p W D).2.1 (wrF nm p W D).2.2 := by
  have hpl := powF_le D
  rcases apd_any ho hs nm p hr with ⟨q1, q2⟩ | ⟨q1, F, q2, hF, hl, ht, hm⟩
  · have h10 : (powF D).2 = 10 := hpl.2.2.resolve_left q1
    unfold wrF
    rw [q2, if_neg (by rw [h10]; simp), if_neg q1]
    exact ⟨hpl.2.1, hpl.1, .inl ⟨q1, powF_fl D⟩⟩
  · have hnm := hl nm
    rw [if_pos rfl] at hnm
    have ho2 : ({ (powF D).1 with fl := F } : Dk).off = false := pow_off ho q1
    have hp2 := powF_le ({ (powF D).1 with fl := F } : Dk)
    unfold wrF
    rw [q2, if_neg (by simp), if_pos rfl]
    rcases sync_any ho2 hF hnm with ⟨s1, s2⟩ | ⟨s1, F2, s2, hF2, hl2, hn2, ht2⟩
    · simp only [s2]
      refine ⟨hp2.2.1.trans hpl.2.1, Nat.le_trans hp2.1 hpl.1, .inr ⟨_, ?_, ?_, .inl rfl, ?_, ?_, fun e => absurd e s1⟩⟩ <;> rw [powF_fl] <;> assumption
    · simp only [s2]
      refine ⟨hp2.2.1.trans hpl.2.1, Nat.le_trans hp2.1 hpl.1, .inr ⟨_, hF2, fun nm' => ?_, .inr rfl, ht2.trans ht, fun y hy => ?_, fun _ => ⟨rfl, pow_off ho2 s1⟩⟩⟩
      · rw [hl2]
        split
        · rfl
        · rename_i e3; show lookF nm' F = _; rw [hl, if_neg e3]
      · obtain ⟨x, hx, ex⟩ := names_mem hn2 hy
        rcases hm x hx with h1 | ⟨z, hz, h2⟩
        · exact .inl (ex ▸ h1)
        · exact .inr ⟨z, hz, h2.trans ex⟩
/-- a write, and the crash behind it -/
theorem wr_cr {nm p : Bs} {D D' : Dk} {e : Nat} (R : WrR nm p D D' e) (hs : Srt D.fl) (hk : ∀ x ∈ D.fl, x.kept = x.b.length) (ps : List Int) :
    (e ≠ 0 ∧ crL ps D'.fl = D.fl) ∨ ∃ c, Srt (crL ps D'.fl) ∧ (∀ nm', lookF nm' (crL ps D'.fl) = if nm' = nm then some ⟨nm, rdB (lookF nm D.fl) ++ p.take c, (rdB (lookF nm D.fl) ++ p.take c).length⟩ else lookF nm' D.fl) ∧
      (∀ y ∈ crL ps D'.fl, y.name = nm ∨ ∃ x ∈ D.fl, x.name = y.name) ∧ (e = 0 → p.take c = p) := by
  rcases R.out with ⟨h1, h2⟩ | ⟨kp, hS, hl, hkp, ht, hm, he⟩
  · exact .inl ⟨h1, by rw [h2]; exact crL_kept hk⟩
  · obtain ⟨q, hq⟩ := look_cr nm ps D'.fl
    rw [hl, if_pos rfl, Option.map_some] at hq
    have hko : ((lookF nm D.fl).map Fl.kept).getD 0 = (rdB (lookF nm D.fl)).length := by
      cases h : lookF nm D.fl with
      | none => rfl
      | some f => exact hk f (look_name h).1
    have hkb : kp ≤ (rdB (lookF nm D.fl) ++ p).length := by
      rcases hkp with h | h
      · rw [h, hko, List.length_append]; omega
      · omega
    have hko2 : (rdB (lookF nm D.fl)).length ≤ kp := by
      rcases hkp with h | h
      · rw [h, hko]; omega
      · rw [h, List.length_append]; omega
    have hc := crN_le q ⟨nm, rdB (lookF nm D.fl) ++ p, kp⟩ hkb
    have hc2 : kp ≤ crN q ⟨nm, rdB (lookF nm D.fl) ++ p, kp⟩ := by unfold crN; simp only; omega
    generalize hcc : crN q ⟨nm, rdB (lookF nm D.fl) ++ p, kp⟩ = cc at hc hc2
    have hcut : crT q ⟨nm, rdB (lookF nm D.fl) ++ p, kp⟩ = ⟨nm, rdB (lookF nm D.fl) ++ p.take (cc - (rdB (lookF nm D.fl)).length), (rdB (lookF nm D.fl) ++ p.take (cc - (rdB (lookF nm D.fl)).length)).length⟩ := by
      unfold crT
      rw [hcc]
      simp only [List.length_append] at hc
      have e1 : (rdB (lookF nm D.fl) ++ p).take cc = rdB (lookF nm D.fl) ++ p.take (cc - (rdB (lookF nm D.fl)).length) := by
        rw [List.take_append, List.take_of_length_le (by omega)]
      simp only [e1, Fl.mk.injEq, true_and, List.length_append, List.length_take]
      omega
    refine .inr ⟨cc - (rdB (lookF nm D.fl)).length, crL_srt hS, fun nm' => ?_, fun y hy => ?_, fun h0 => ?_⟩
    · split
      · rename_i e1; subst e1; rw [hq, hcut]
      · rename_i e1
        obtain ⟨q2, hq2⟩ := look_cr nm' ps D'.fl
        rw [hq2, hl, if_neg e1]
        cases h : lookF nm' D.fl with
        | none => rfl
        | some f => rw [Option.map_some, crT_kept (hk f (look_name h).1)]
    · obtain ⟨x, hx, ex⟩ := names_mem (crL_names ps D'.fl) hy
      rcases hm x hx with h1 | ⟨z, hz, h2⟩
      · exact .inl (ex ▸ h1)
      · exact .inr ⟨z, hz, h2.trans ex⟩
    · have := (he h0).1
      rw [List.length_append] at this
      exact List.take_of_length_le (by omega)
end Go.Fw

set_option linter.unusedSimpArgs false
set_option linter.unusedVariables false
namespace Go.Fw
open Go.Proofs
/-! Add and Anew with a failing power. Plain. -/
theorem segR_torn {segs recs l : List Bs} {n : Nat} (R : SegR segs n recs) (hok : ∀ p ∈ l, okR p) : ∃ lp lb, TornR n recs l lp lb ∧ segs = lp.map frs ++ [frs lb] ∧ TornR n recs l (lp ++ [lb]) [] := by
  obtain ⟨ls, hls, hfl, hhd, hoks, hn, hnb⟩ := R
  have hne : ls ≠ [] := by intro e; rw [e] at hfl; simp at hfl
  have e := List.dropLast_concat_getLast hne
  rw [← e] at hls hfl
  rw [← e] at hhd
  refine ⟨ls.dropLast, ls.getLast hne, ⟨by rw [← hfl]; simp, hhd, hoks, hok, hn, hnb⟩, by rw [hls]; simp, ⟨by rw [hfl]; simp, fun a b hab => ?_, hoks, hok, hn, hnb⟩⟩
  cases h : ls.dropLast ++ [ls.getLast hne] with
  | nil => simp at h
  | cons x r =>
    rw [h] at hab
    simp only [List.cons_append, List.cons.injEq] at hab
    exact hab.1 ▸ hhd x r h
theorem Gen.put {fl F : List Fl} {g : Nat} {init xs : List Bs} {y : Bs} (G : Gen fl g (init ++ xs)) (hx : xs.length ≤ 1) (hg : g < 100) (hK : init.length + 1 < 99) (hs : Srt F) (hl : ∀ nm', lookF nm' F = if nm' = nmB g (init.length + 1) then some ⟨nmB g (init.length + 1), y, y.length⟩ else lookF nm' fl)
    (hm : ∀ z ∈ F, z.name = nmB g (init.length + 1) ∨ ∃ x ∈ fl, x.name = z.name) : Gen F g (init ++ [y]) := by
  refine ⟨hs, fun k hk => ?_, fun z hz => ?_⟩
  · rw [hl]
    rw [List.length_append, List.length_singleton] at hk
    by_cases e : k = init.length
    · subst e
      rw [if_pos rfl]
      simp
    · have hk2 : k < init.length := by omega
      rw [if_neg (fun h => e (by have := (nmB_inj hg (by omega) hg (by omega) h).2; omega)), List.getElem_append_left hk2]
      have := G.seg k (by simp; omega)
      rw [List.getElem_append_left hk2] at this
      exact this
  · rw [List.length_append, List.length_singleton]
    rcases hm z hz with h | ⟨w, hw, e⟩
    · exact ⟨init.length, by omega, h⟩
    · obtain ⟨k, hk, e2⟩ := G.only w hw
      rw [List.length_append] at hk
      exact ⟨k, by omega, e ▸ e2⟩
theorem WrR.tt {nm p : Bs} {D D' : Dk} {e : Nat} (R : WrR nm p D D' e) : tot D'.fl ≤ tot D.fl + p.length := by
  rcases R.out with ⟨_, h⟩ | ⟨_, _, _, _, h, _⟩
  · rw [h]; omega
  · omega
theorem WrR.kle {nm p : Bs} {D D' : Dk} {e : Nat} (R : WrR nm p D D' e) (hk : ∀ x ∈ D.fl, x.kept = x.b.length) : ∀ f ∈ D'.fl, f.kept ≤ f.b.length := fun f hf => by
  rcases R.out with ⟨_, h⟩ | ⟨kp, hS, hl, hkp, _⟩
  · rw [h] at hf; exact Nat.le_of_eq (hk f hf)
  · have h1 := mem_look hS hf
    rw [hl] at h1
    split at h1
    · cases h1
      simp only
      rcases hkp with h | h
      · rw [h]
        cases h2 : lookF nm D.fl with
        | none => simp
        | some x =>
          have := hk x (look_name h2).1
          simp [rdB, this]
      · omega
    · exact Nat.le_of_eq (hk f (look_name h1).1)
theorem ite_pr (x : Wl × Dk × Nat) (y : Wl) : (if x.2.2 ≠ 0 then x else (y, x.2.1, 0)).2 = x.2 := by
  split
  · rfl
  · rename_i h
    exact Prod.ext rfl (by simp only; omega)
structure AddR (D D' : Dk) (k : Nat) : Prop where
  quota : D'.quota = D.quota
  left : D'.left ≤ D.left
  tt : tot D'.fl ≤ tot D.fl + k
  kle : ∀ f ∈ D'.fl, f.kept ≤ f.b.length
theorem add_cut {D : Dk} (ho : D.off = false) {g n : Nat} {segs recs l : List Bs} (G : Gen D.fl g segs) (R : SegR segs n recs) (hg0 : 0 < g) (hg : g < 100) (hK : segs.length < 97) (hok : ∀ p ∈ l, okR p) (hr : tot D.fl + (frs l).length ≤ D.quota) :
    AddR D (addF l ⟨g, segs.length, false⟩ D).2.1 (frs l).length ∧ ∀ ps, ∃ lp lb c, TornR n recs l lp lb ∧ lp.length ≤ segs.length ∧ Gen (crL ps (addF l ⟨g, segs.length, false⟩ D).2.1.fl) g (tornS lp lb l c) ∧ ((addF l ⟨g, segs.length, false⟩ D).2.2 = 0 → (frs l).take c = frs l) := by
  have hk := G.kb
  obtain ⟨lp, lb, T, es, T2⟩ := segR_torn R hok
  have hsl : segs.length = lp.length + 1 := by rw [es]; simp
  have hT0 : tornS lp lb l 0 = segs := by rw [es]; simp [tornS]
  unfold addF
  rw [if_neg (by simp), if_neg (by simp only; omega)]
  by_cases hl : l = []
  · rw [if_pos hl]
    refine ⟨⟨rfl, Nat.le_refl _, by simp only; omega, fun f hf => Nat.le_of_eq (hk f hf)⟩, fun ps => ⟨lp, lb, 0, T, by omega, ?_, fun _ => by rw [hl]; rfl⟩⟩
    simp only
    rw [crL_kept hk, hT0]; exact G
  · have hlast := G.seg lp.length (by omega)
    have hlg : segs[lp.length]'(by omega) = frs lb := by simp [es]
    rw [hlg] at hlast
    have hadk : adK ⟨g, segs.length, false⟩ D = if 4096 < (frs lb).length then segs.length + 1 else segs.length := by
      unfold adK; simp only [hsl, hlast]; rfl
    rw [if_neg hl, hadk]
    simp only [ite_pr]
    have hw := wr_any ho G.srt (nmB g (if 4096 < (frs lb).length then segs.length + 1 else segs.length)) (frs l) ⟨g, segs.length, false⟩ hr
    refine ⟨⟨hw.quota, hw.left, hw.tt, hw.kle hk⟩, fun ps => ?_⟩
    rcases wr_cr hw G.srt hk ps with ⟨h1, h2⟩ | ⟨c, hS, hL, hm, he⟩
    · exact ⟨lp, lb, 0, T, by omega, by rw [h2, hT0]; exact G, fun e => absurd e h1⟩
    · by_cases hlong : 4096 < (frs lb).length
      · simp only [if_pos hlong] at hS hL hm he ⊢
        have e1 : ((lp ++ [lb]).map frs).length = segs.length := by rw [hsl]; simp
        have e2 : (lp ++ [lb]).map frs = segs := by rw [es]; simp
        have hno := G.noF hg (by omega) hg (k' := segs.length + 1) (by omega) (.inr (.inr (by omega)))
        refine ⟨lp ++ [lb], [], c, T2, by rw [hsl]; simp, ?_, he⟩
        refine Gen.put (fl := D.fl) (init := (lp ++ [lb]).map frs) (xs := []) (y := frs [] ++ (frs l).take c) (by rw [List.append_nil, e2]; exact G) (by simp) hg (by rw [e1]; omega) hS (fun nm' => ?_) (fun z hz => by rw [e1]; exact hm z hz)
        rw [hL, e1, hno]
        simp [rdB, frs]
      · simp only [if_neg hlong] at hS hL hm he ⊢
        have e1 : (lp.map frs).length + 1 = segs.length := by rw [hsl]; simp
        rw [← hsl] at hlast
        refine ⟨lp, lb, c, T, by omega, ?_, he⟩
        refine Gen.put (fl := D.fl) (init := lp.map frs) (xs := [frs lb]) (y := frs lb ++ (frs l).take c) (by rw [← es]; exact G) (by simp) hg (by omega) hS (fun nm' => ?_) (fun z hz => by rw [e1]; exact hm z hz)
        rw [hL, e1, hlast]
        simp [rdB]
theorem NewS.kb {fl : List Fl} {g : Nat} {segs : List Bs} {T : Bs} (N : NewS fl g segs T) : ∀ x ∈ fl, x.kept = x.b.length := fun x hx => by
  have h1 := mem_look N.srt hx
  rcases N.only x hx with ⟨k, hk, e⟩ | e
  · rw [e] at h1
    rcases N.old k hk with h2 | h2 <;> rw [h2] at h1 <;> cases h1
    rfl
  · rw [e] at h1
    rcases N.new with h2 | ⟨c, h2⟩ <;> rw [h2] at h1 <;> cases h1
    rfl
theorem anR_any {g : Nat} {segs : List Bs} {T : Bs} (hg : g < 99) (hK : segs.length < 98) : ∀ (f k : Nat) (D : Dk), D.off = false → f + k = segs.length + 1 → 0 < k → NewS D.fl g segs T → NewF D.fl g T → (∀ j, k ≤ j → j ≤ segs.length → (lookF (nmB g j) D.fl).isSome) →
    NewS (anR g f k D).1.fl g segs T ∧ NewF (anR g f k D).1.fl g T ∧ ClR D (anR g f k D).1 (anR g f k D).2
  | 0, _, D, ho, _, _, N, hf, _ => ⟨N, hf, ClR.refl ho⟩
  | f + 1, k, D, ho, e, hk0, N, hf, hj => by
    obtain ⟨x, hx⟩ := Option.isSome_iff_exists.1 (hj k (Nat.le_refl _) (by omega))
    unfold anR
    rcases rm_any ho N.srt hx with ⟨q1, q2⟩ | ⟨q1, F, q2, qs, ql, qt, qm⟩
    · rw [q2, if_pos q1]
      exact ⟨by rw [powF_fl]; exact N, by rw [powF_fl]; exact hf, ClR.pow q1⟩
    · rw [q2, if_neg (by simp)]
      obtain ⟨N2, hf2⟩ := N.del_old hf hg hK (k0 := k - 1) (by omega) qs (by rw [show k - 1 + 1 = k from by omega]; exact ql) qm
      obtain ⟨r1, r2, r3⟩ := anR_any hg hK f (k + 1) { (powF D).1 with fl := F } (pow_off ho q1) (by omega) (by omega) N2 hf2 fun j h1 h2 => by
        simp only
        rw [ql, if_neg (fun hh => by have := (nmB_inj (by omega) (by omega) (by omega) (by omega) hh).2; omega)]
        exact hj j (by omega) h2
      exact ⟨r1, r2, (ClR.step ho q1 qt).trans r3⟩
theorem anew_cut {D : Dk} (ho : D.off = false) {g : Nat} {segs l : List Bs} (G : Gen D.fl g segs) (hg : g < 98) (hK : segs.length < 98) (hr : tot D.fl + (hdR l).length ≤ D.quota) :
    AddR D (anewF l ⟨g, segs.length, false⟩ D).2.1 (hdR l).length ∧ ∀ ps, NewS (crL ps (anewF l ⟨g, segs.length, false⟩ D).2.1.fl) g segs (hdR l) ∧ ((anewF l ⟨g, segs.length, false⟩ D).2.2 = 0 → NewF (crL ps (anewF l ⟨g, segs.length, false⟩ D).2.1.fl) g (hdR l)) := by
  have hk := G.kb
  have hno := G.noF (by omega) (by omega) (g' := g + 1) (k' := 1) (by omega) (by omega) (.inl (by omega))
  have hw := wr_any ho G.srt (nmB (g + 1) 1) (hdR l) ⟨g, segs.length, false⟩ hr
  have hne : ∀ k, k < segs.length → nmB g (k + 1) ≠ nmB (g + 1) 1 := fun j hj hh => by have := (nmB_inj (by omega) (by omega) (by omega) (by omega) hh).1; omega
  have N0 : NewS D.fl g segs (hdR l) := ⟨G.srt, fun k hk => .inr (G.seg k hk), .inl hno, fun x hx => .inl (by obtain ⟨k, h1, h2⟩ := G.only x hx; exact ⟨k, h1, h2⟩), .inl fun k hk => G.seg k hk⟩
  have mk : ∀ (F : List Fl) (c : Nat), Srt F → (∀ nm', lookF nm' F = if nm' = nmB (g + 1) 1 then some ⟨nmB (g + 1) 1, rdB (lookF (nmB (g + 1) 1) D.fl) ++ (hdR l).take c, (rdB (lookF (nmB (g + 1) 1) D.fl) ++ (hdR l).take c).length⟩ else lookF nm' D.fl) → (∀ y ∈ F, y.name = nmB (g + 1) 1 ∨ ∃ x ∈ D.fl, x.name = y.name) →
      NewS F g segs (hdR l) ∧ ((hdR l).take c = hdR l → NewF F g (hdR l)) ∧ ∀ k (h : k < segs.length), lookF (nmB g (k + 1)) F = some ⟨nmB g (k + 1), segs[k], segs[k].length⟩ := by
    intro F c hS hL hm
    have hold : ∀ k (h : k < segs.length), lookF (nmB g (k + 1)) F = some ⟨nmB g (k + 1), segs[k], segs[k].length⟩ := fun k hk => by
      rw [hL, if_neg (hne k hk)]; exact G.seg k hk
    have hnew : lookF (nmB (g + 1) 1) F = some ⟨nmB (g + 1) 1, (hdR l).take c, ((hdR l).take c).length⟩ := by
      rw [hL, if_pos rfl, hno]; simp [rdB]
    refine ⟨⟨hS, fun k hk => .inr (hold k hk), .inr ⟨c, hnew⟩, fun x hx => ?_, .inl hold⟩, fun e => by unfold NewF; rw [hnew, e], hold⟩
    rcases hm x hx with h | ⟨z, hz, h⟩
    · exact .inr h
    · obtain ⟨k, h1, h2⟩ := G.only z hz
      exact .inl ⟨k, h1, by rw [← h]; exact h2⟩
  unfold anewF
  rw [if_neg (by simp)]
  simp only
  by_cases he : (wrF (nmB (g + 1) 1) (hdR l) ⟨g, segs.length, false⟩ D).2.2 = 0
  · rw [if_neg (by simp [he])]
    rw [he] at hw
    rcases hw.out with ⟨h1, _⟩ | ⟨kp, hS, hL, hkp, ht, hm, h0⟩
    · exact absurd rfl h1
    · obtain ⟨ek, eo⟩ := h0 rfl
      obtain ⟨N1, f1, o1⟩ := mk _ (hdR l).length hS (fun nm' => by rw [hL, ek, List.take_length]) hm
      have f1 := f1 (List.take_length)
      obtain ⟨N2, f2, c2⟩ := anR_any (by omega) hK segs.length 1 _ eo (by omega) (by omega) N1 f1 fun j h1 h2 => by
        have := o1 (j - 1) (by omega)
        rw [show j - 1 + 1 = j from by omega] at this
        rw [this]; rfl
      have hkb := N2.kb
      have hfin : ∀ (x : Dk × Nat) (W1 W2 : Wl), (if x.2 ≠ 0 then (W1, x) else (W2, x.1, 0)).2 = x := fun x W1 W2 => by
        split
        · rfl
        · rename_i h; exact Prod.ext rfl (by simp only; omega)
      rw [hfin]
      refine ⟨⟨c2.quota.trans hw.quota, Nat.le_trans c2.left hw.left, by have := c2.tt; omega, fun f hf => Nat.le_of_eq (hkb f hf)⟩, fun ps => ?_⟩
      rw [crL_kept hkb]
      exact ⟨N2, fun _ => f2⟩
  · rw [if_pos he]
    refine ⟨⟨hw.quota, hw.left, hw.tt, hw.kle hk⟩, fun ps => ?_⟩
    rcases wr_cr hw G.srt hk ps with ⟨h1, h2⟩ | ⟨c, hS, hL, hm, h0⟩
    · rw [h2]; exact ⟨N0, fun e => absurd e he⟩
    · exact ⟨(mk _ c hS hL hm).1, fun e => absurd e he⟩
end Go.Fw
