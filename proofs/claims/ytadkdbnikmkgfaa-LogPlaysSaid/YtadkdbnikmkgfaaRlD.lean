import Derived.Test.YtadkdbnikmkgfaaRlC
set_option linter.unusedSimpArgs false
set_option linter.unusedVariables false
namespace Go.Fw
open Go.Proofs
variable {m m0 M : Mem} {S : List Nat} {L : List As}
/-! the program's log and the document's -/
structure Sim (l r : LogL) : Prop where
  perm : r.Perm l
  asc : AscL r
theorem asc_nodup {l : List (Int × Int)} (h : Asc l) : l.Nodup := h.imp fun h e => by subst e; unfold lt2 at h; omega
theorem Sim.keys {l r : LogL} (h : Sim l r) : (keysC r).Perm (keysC l) := h.perm.map _
theorem Sim.nd {l r : LogL} (h : Sim l r) : (keysC l).Nodup := h.keys.nodup_iff.1 (asc_nodup h.asc)
theorem Sim.lk {l r : LogL} (h : Sim l r) (k : Int × Int) : lkC k r = lkC k l := by
  cases hl : lkC k l with
  | none => rw [lkC_none] at hl ⊢; exact fun hm => hl (h.keys.mem_iff.1 hm)
  | some c => exact lkC_of (asc_nodup h.asc) (h.perm.mem_iff.2 (lkC_mem hl))
theorem Sim.len {l r : LogL} (h : Sim l r) : r.length = l.length := h.perm.length_eq
theorem Sim.may {l r : LogL} (h : Sim l r) (cut : Dp) (k : Int × Int) (c : Cel) : mayS cut r k c ↔ mayS cut l k c := by unfold mayS; rw [h.lk]
theorem Sim.ok {l r : LogL} (h : Sim l r) (hk : KeysOk l) : KeysOk r := fun k hm => hk k (h.keys.mem_iff.1 hm)
theorem Sim.live {l r : LogL} (h : Sim l r) (ct : Dp) : Sim (liveC ct l) (liveC ct r) := ⟨h.perm.filter _, by
  unfold AscL; rw [liveC, keysC_filter r (fun k => decide (¬ goneD ct k))]; exact h.asc.filter _⟩
theorem kOf_lt {i : Int × Int} : ∀ {l : LogL} {j : Nat} {p : (Int × Int) × Cel}, j < kOf i l → l[j]? = some p → lt2 p.1 i
  | [], j, p, h, _ => by simp [kOf] at h
  | q :: r, 0, p, h, hp => by
    simp only [kOf] at h
    split at h
    · simp at hp; subst hp; assumption
    · simp at h
  | q :: r, j + 1, p, h, hp => by
    simp only [kOf] at h
    split at h
    · exact kOf_lt (l := r) (j := j) (by omega) (by simpa using hp)
    · simp at h
theorem kOf_ge {i : Int × Int} : ∀ {l : LogL} {p : (Int × Int) × Cel}, l[kOf i l]? = some p → ¬ lt2 p.1 i
  | [], p, h => by simp [kOf] at h
  | q :: r, p, h => by
    simp only [kOf] at h
    split at h
    · exact kOf_ge (l := r) (by simpa using h)
    · simp at h; subst h; assumption
theorem ins_asc {i : Int × Int} {c : Cel} {l : LogL} (h : AscL l) : AscL (insS i c l) := by
  unfold insS
  cases hlk : lkC i l with
  | some w =>
    rw [if_pos Option.isSome_some]
    have hk := lk_at h hlk
    have hlt := (List.getElem?_eq_some_iff.1 hk).1
    have hfst : keysC (l.set (kOf i l) (i, c)) = keysC l := by
      unfold keysC
      rw [List.map_set]
      apply List.ext_getElem?
      intro j
      rw [List.getElem?_set]
      split
      · rename_i e; subst e
        have e2 := (List.getElem?_eq_some_iff.1 hk).2
        simp [hlt, e2]
      · rfl
    unfold AscL; rw [hfst]; exact h
  | none =>
    rw [if_neg (by simp)]
    have hni := lkC_none.1 hlk
    have hsplit : keysC l = keysC (l.take (kOf i l)) ++ keysC (l.drop (kOf i l)) := by unfold keysC; rw [← List.map_append, List.take_append_drop]
    unfold AscL Asc at h ⊢
    rw [hsplit, List.pairwise_append] at h
    obtain ⟨h1, h2, h3⟩ := h
    have hbef : ∀ x ∈ keysC (l.take (kOf i l)), lt2 x i := fun x hx => by
      obtain ⟨p, hp, rfl⟩ := List.mem_map.1 hx
      obtain ⟨j, hj⟩ := List.mem_iff_getElem?.1 hp
      rw [List.getElem?_take] at hj
      split at hj
      · exact kOf_lt (by assumption) hj
      · cases hj
    have haft : ∀ x ∈ keysC (l.drop (kOf i l)), lt2 i x := fun x hx => by
      have hxl : x ∈ keysC l := by rw [hsplit]; exact List.mem_append_right _ hx
      have hne : x ≠ i := fun e => hni (e ▸ hxl)
      have hnlt : ¬ lt2 x i := by
        cases hd : l.drop (kOf i l) with
        | nil => rw [hd] at hx; simp [keysC] at hx
        | cons p t =>
          have hp : l[kOf i l]? = some p := by
            have := congrArg (fun l => l[0]?) hd
            simpa using this
          have h5 := kOf_ge hp
          rw [hd] at hx h2
          simp only [keysC, List.map_cons, List.mem_cons] at hx
          rcases hx with rfl | hx
          · exact h5
          · have h6 : p.1.1 < x.1 ∨ p.1.1 = x.1 ∧ p.1.2 < x.2 := (List.pairwise_cons.1 h2).1 x hx
            have h7 : ¬ (p.1.1 < i.1 ∨ p.1.1 = i.1 ∧ p.1.2 < i.2) := h5
            show ¬ (x.1 < i.1 ∨ x.1 = i.1 ∧ x.2 < i.2)
            clear h2 h3 hbef hsplit h5
            omega
      unfold lt2 at *
      have : ¬ (x.1 = i.1 ∧ x.2 = i.2) := fun h => hne (Prod.ext h.1 h.2)
      omega
    have e : keysC (l.take (kOf i l) ++ (i, c) :: l.drop (kOf i l)) = keysC (l.take (kOf i l)) ++ i :: keysC (l.drop (kOf i l)) := by simp [keysC]
    rw [e, List.pairwise_append]
    refine ⟨h1, List.pairwise_cons.2 ⟨haft, h2⟩, fun x hx y hy => ?_⟩
    rcases List.mem_cons.1 hy with rfl | hy
    · exact hbef x hx
    · exact h3 x hx y hy
theorem ins_perm {i : Int × Int} {c : Cel} {l : LogL} (h : AscL l) : (insS i c l).Perm (upC i c l) := by
  unfold insS upC
  cases hlk : lkC i l with
  | some w =>
    have hk := lk_at h hlk
    have hin : i ∈ keysC l := Classical.byContradiction fun hn => by rw [lkC_none.2 hn] at hlk; cases hlk
    rw [if_pos Option.isSome_some, if_pos hin]
    have : l.set (kOf i l) (i, c) = l.map (fun p => if p.1 = i then (i, c) else p) := by
      apply List.ext_getElem?
      intro j
      rw [List.getElem?_set, List.getElem?_map]
      split
      · rename_i e; subst e
        rw [hk, if_pos (List.getElem?_eq_some_iff.1 hk).1]; simp
      · rename_i hne
        cases hj : l[j]? with
        | none => rfl
        | some p =>
          have hp : p.1 ≠ i := fun e => by
            have n1 : (keysC l)[j]? = some i := by unfold keysC; rw [List.getElem?_map, hj]; simp [e]
            have n2 : (keysC l)[kOf i l]? = some i := by unfold keysC; rw [List.getElem?_map, hk]; rfl
            have := (List.getElem?_inj (List.getElem?_eq_some_iff.1 n1).1 (asc_nodup h)).1 (n1.trans n2.symm)
            exact hne this.symm
          simp [hp]
    rw [this]
  | none =>
    have hin := lkC_none.1 hlk
    rw [if_neg (by simp), if_neg hin]
    have h1 : (l.take (kOf i l) ++ (i, c) :: l.drop (kOf i l)).Perm ((i, c) :: (l.take (kOf i l) ++ l.drop (kOf i l))) := List.perm_middle
    rw [List.take_append_drop] at h1
    exact h1.trans (List.perm_append_singleton _ _).symm
theorem upC_perm {i : Int × Int} {c : Cel} {l r : LogL} (h : r.Perm l) : (upC i c r).Perm (upC i c l) := by
  unfold upC
  have : i ∈ keysC r ↔ i ∈ keysC l := (h.map _).mem_iff
  by_cases e : i ∈ keysC l
  · rw [if_pos (this.2 e), if_pos e]; exact h.map _
  · rw [if_neg (fun h => e (this.1 h)), if_neg e]; exact h.append_right _
theorem Sim.set {l r : LogL} (h : Sim l r) (i : Int × Int) (c : Cel) : Sim (upC i c l) (insS i c r) := ⟨(ins_perm h.asc).trans (upC_perm h.perm), ins_asc h.asc⟩
theorem law_alike_s {lb rm wb : Nat} {iv cv : Value} {cut : Dp} {l r : LogL} (h1 : LogIs m lb rm cut l) (h2 : (logR wb iv cv cut r).p m) (hs : Sim l r) (hk : KeysOk l) (hl : l.length ≤ 1000) :
    MC Try.prog n_law16_alike [lp lb, lpp wb] m fun v m' => v = .bool true ∧ Fr m m' [] := by
  have hlr := hs.len
  obtain ⟨a, cc, e1⟩ := (logR_C h2).form
  obtain ⟨ai, ci, e2⟩ := (logR_I h2).form
  have hlm : (r.map (·.2)).length = r.length := List.length_map ..
  have hlm1 : (r.map (·.1)).length = r.length := List.length_map ..
  rw [hlm] at e1
  rw [hlm1] at e2
  subst e1 e2
  have hbox := logR_box h2
  refine law16_alike_go (by simp [Try.f33]) ?_
  have H := Hq.refl m []
  simp (disch := omega) only [go_sem, undef, hbox]
  refine callN H (log_List_q h1 (by omega)) fun u M A' ⟨l1, hp1, ha1, eA⟩ f H => ?_
  subst eA
  obtain rfl : l1 = r.map (·.1) := asc_eq ha1 hs.asc (hp1.trans hs.keys.symm)
  simp (disch := omega) only [go_sem, undef, H.fr.get0 hbox]
  refine callQ H (same_Inst_s (Own.rds (by decide) pc_len (H.at 0 rfl)) (by rw [← hlm1]; exact RdS.frame (by rw [hlm1]; exact logR_I h2) H.fr) (by omega) (by omega)) fun M f H => ?_
  have hbox3 := H.fr.get0 hbox
  simp (disch := omega) only [go_sem, undef, hbox3]
  refine callQ H (log_Cut_s (h1.frame0 H.fr)) fun M f H => ?_
  have hbox4 := H.fr.get0 hbox
  simp (disch := omega) only [go_sem, undef, hbox4]
  refine callQ H (log_Top_q (h1.frame0 H.fr) hk) fun M f H => ?_
  simp (disch := omega) only [go_sem, undef]
  refine callQ H (ref15_Top_s (As.fr0 h2 H.fr) (hs.ok hk) (by omega)) fun M f H => ?_
  rw [topD_perm hs.keys hk]
  simp (disch := omega) only [go_sem, undef]
  refine loopQ_intro (fun n E m' => ∃ k, k ≤ r.length ∧ n = r.length - k ∧ E = [(0, lp lb), (1, lpp wb), (5, .int .i64 (k : Nat))] ∧ Hq m m' [] []) r.length rfl ⟨0, by omega, rfl, rfl, H.tail⟩ ?_
  clear H
  rintro n E m' ⟨k, hk1, rfl, rfl, H⟩
  have hbox5 := H.fr.get0 hbox
  by_cases h4 : k < r.length
  · have hlk : r[k]? = some r[k] := List.getElem?_eq_getElem h4
    generalize r[k] = p at hlk
    have h2m : (logR wb (.slice ai r.length ci) (.slice a r.length cc) cut r).p m' := As.fr0 h2 H.fr
    refine RdS.elK (l := r.map (·.1)) (by rw [hlm1]; exact logR_I h2m) (i := k) (by rw [hlm1]; exact h4) (by decide) fun b2 o2 x hx hix hE => ?_
    have hxp : x = p.1 := by rw [List.getElem?_map, hlk] at hx; simpa using hx.symm
    subst hxp
    rw [hlm1] at hix
    have hpl : lkC p.1 l = some p.2 := by rw [← hs.lk]; exact lkC_of (asc_nodup hs.asc) (List.mem_of_getElem? hlk)
    simp (disch := omega) only [go_sem, undef, hbox5, dec_t, hix, hE.lda0]
    refine callQ H (log_Cell_s (h1.frame0 H.fr) p.1) fun M f H => ?_
    rw [hpl]
    simp (disch := omega) only [go_sem, undef, Option.isSome_some]
    refine newQ H fun b5 M f H => ?_
    simp (disch := omega) only [go_sem, undef]
    refine stwQ0 H rfl rfl fun M f H => ?_
    have hbox6 := H.fr.get0 hbox
    have h2M : (logR wb (.slice ai r.length ci) (.slice a r.length cc) cut r).p M := As.fr0 h2 H.fr
    refine RdS.elK (l := r.map (·.2)) (by rw [hlm]; exact logR_C h2M) (i := k) (by rw [hlm]; exact h4) (by decide) fun b3 o3 y hy hiy hF => ?_
    have hyp : y = p.2 := by rw [List.getElem?_map, hlk] at hy; simpa using hy.symm
    subst hyp
    rw [hlm] at hiy
    simp (disch := omega) only [go_sem, undef, H.cs, hbox6, hiy, hF.lda0, Option.getD_some]
    exact handN_intro (r.length - (k + 1)) (by omega) ⟨k + 1, by omega, rfl, rfl, H.tail⟩
  · simp (disch := omega) only [go_sem, undef, hbox5, dec_f]
    exact ⟨rfl, H.fr⟩
end Go.Fw
