import Derived.Test.YtadkdbnikmkgfaaRlA
set_option linter.unusedSimpArgs false
set_option linter.unusedVariables false
namespace Go.Fw
open Go.Proofs
variable {m m0 M : Mem} {S : List Nat} {L : List As}
theorem topD_snoc (cut : Dp) (l : List (Int × Int)) (k : Int × Int) : topD cut (l ++ [k]) = Dp.up (topD cut l) k.1.toNat (max ((topD cut l).g k.1.toNat) k.2) := by simp [topD]
theorem ref15_Top_s {wb : Nat} {iv cv : Value} {cut : Dp} {l : LogL} (h : (logR wb iv cv cut l).p m) (hk : KeysOk l) (hl : l.length ≤ 1000000) :
    MC Try.prog n_ref15_Log_Top [lpp wb] m fun v m' => v = (topD cut (keysC l)).v ∧ Fr m m' [] := by
  have hI := logR_I h
  obtain ⟨a, c, rfl⟩ := hI.form
  have hlm : (l.map (·.1)).length = l.length := List.length_map ..
  have hbox0 := logR_box h
  refine ref15_Log_Top_go (by simp [Try.f33]) ?_
  have H := Hq.refl m []
  simp (disch := omega) only [go_sem, undef, hbox0]
  refine newQ H fun b1 M0 f0 H => ?_
  have hbox := H.fr.get0 hbox0
  simp (disch := omega) only [go_sem, undef, hbox]
  refine newQ H fun b2 M0 f1 H => ?_
  have hbox := H.fr.get0 hbox0
  simp (disch := omega) only [go_sem, undef, hbox]
  refine stwQ0 H rfl rfl fun M0 f1 H => ?_
  simp (disch := omega) only [go_sem, undef]
  refine loopQ_intro (fun n E m' => ∃ k, k ≤ l.length ∧ n = l.length - k ∧ E = [(0, lpp wb), (2, .pointer (some ⟨b1, 0, none⟩)), (3, .pointer (some ⟨b2, 0, none⟩)), (4, .int .i64 (k : Nat))] ∧
    Hq m m' [] [cellA b2 (.cells (dv (topD cut (keysC (l.take k)))).toArray T_api_Deps (0, 0)), cellA b1 (.cells (dv Dp.zero).toArray T_api_Deps (0, 0))]) l.length rfl ⟨0, by omega, rfl, rfl, H⟩ ?_
  clear H f0 f1
  rintro n E m' ⟨k, hk1, rfl, rfl, H⟩
  have hbox := H.fr.get0 hbox0
  by_cases h1 : k < l.length
  · refine RdS.elK (RdS.frame hI H.fr) (i := k) (by rw [hlm]; exact h1) (by decide) fun b3 o3 x hx hix hE => ?_
    rw [List.getElem?_map] at hx
    have hlk : l[k]? = some l[k] := List.getElem?_eq_getElem h1
    rw [hlk] at hx
    simp only [Option.map_some, Option.some.injEq] at hx
    generalize l[k] = p at hlk hx
    subst hx
    have hp := hk p.1 (List.mem_map.2 ⟨p, List.mem_of_getElem? hlk, rfl⟩)
    obtain ⟨q1, q2, q3, q4⟩ := hp
    rw [hlm] at hix
    simp (disch := omega) only [go_sem, undef, hbox, dec_t, hix, hE.ld0, hE.ld, H.cs]
    refine wrQ0 H fun M f H => ?_
    simp (disch := omega) only [go_sem, undef]
    refine handN_intro (l.length - (k + 1)) (by omega) ⟨k + 1, by omega, rfl, rfl, ?_⟩
    have e : keysC (l.take (k + 1)) = keysC (l.take k) ++ [p.1] := by
      rw [List.take_add_one, hlk]; simp [keysC]
    rw [e, topD_snoc]
    exact H
  · have e : k = l.length := by omega
    subst e
    rw [List.take_length] at H
    simp (disch := omega) only [go_sem, undef, hbox, dec_f, H.cs]
    refine stwQ1 H rfl rfl fun M f H => ?_
    simp (disch := omega) only [go_sem, undef, H.cs]
    exact ⟨rfl, H.fr⟩
def insS (i : Int × Int) (c : Cel) (l : LogL) : LogL := if (lkC i l).isSome then l.set (kOf i l) (i, c) else l.take (kOf i l) ++ (i, c) :: l.drop (kOf i l)
theorem lk_at {i : Int × Int} {l : LogL} (hs : AscL l) {x : Cel} (hlk : lkC i l = some x) : l[kOf i l]? = some (i, x) := by
  rw [kOf_lk hs] at hlk
  cases hg : l[kOf i l]? with
  | none => rw [hg] at hlk; cases hlk
  | some p =>
    rw [hg] at hlk
    simp only [Option.bind_some] at hlk
    split at hlk
    · rename_i e; cases hlk; subst e; rfl
    · cases hlk
theorem CM_end {A A' : As} {R : Value → As → Prop} {v : Value} (H : Hq m M A.wp (A' :: L)) (hr : R v A') (hf : ∀ b ∈ A'.fp, b ∈ A.fp ∨ m b = none) : ∃ A', R v A' ∧ A'.p M ∧ Fr m M A.wp ∧ (∀ b ∈ A'.fp, b ∈ A.fp ∨ m b = none) ∧ ∀ b ∈ A'.wp, b ∈ A.wp ∨ m b = none :=
  ⟨A', hr, H.hs.1, H.fr, hf, fun b hb => H.done.2.2 b hb⟩
theorem logR_fw {wb : Nat} {iv cv : Value} {cut : Dp} {l : LogL} : (logR wb iv cv cut l).fp = (logR wb iv cv cut l).wp := by
  unfold logR starA
  simp
/-- the end of a walk that turned the document's log -/
theorem logR_end {wb : Nat} {iv cv iv' cv' : Value} {cut cut' : Dp} {l l' : LogL} {v V : Value} (H : Hq m M (logR wb iv cv cut l).wp (logR wb iv' cv' cut' l' :: L)) (hv : v = V) :
    ∃ A', (v = V ∧ ∃ iv' cv', A' = logR wb iv' cv' cut' l') ∧ A'.p M ∧ Fr m M (logR wb iv cv cut l).wp ∧ (∀ b ∈ A'.fp, b ∈ (logR wb iv cv cut l).fp ∨ m b = none) ∧ ∀ b ∈ A'.wp, b ∈ (logR wb iv cv cut l).wp ∨ m b = none :=
  ⟨_, ⟨hv, iv', cv', rfl⟩, H.hs.1, H.fr, fun b hb => by rw [logR_fw] at hb ⊢; exact H.done.2.2 b hb, fun b hb => H.done.2.2 b hb⟩
theorem RdS.cutA {α : Type} {k : Nat} {enc : α → List Value} {a : Option Addr} {c : Nat} {l : List α} (k0 : 0 < k) (h : RdS k enc m (.slice a l.length c) l) (lo hi : Nat) (h1 : lo ≤ hi) (h2 : hi ≤ l.length) :
    ∃ a' c', cutS k a c lo hi = some (.slice a' (hi - lo) c') ∧ ∀ M, RdS k enc M (.slice a l.length c) l → RdS k enc M (.slice a' (hi - lo) c') ((l.take hi).drop lo) := by
  obtain ⟨a', c', e, _, _⟩ := h.cut k0 lo hi h1 h2
  refine ⟨a', c', e, fun M hM => ?_⟩
  obtain ⟨a2, c2, e2, h3, _⟩ := hM.cut k0 lo hi h1 h2
  have := e.symm.trans e2
  cases this
  exact h3
theorem ownA_eq {T : TypeId} {sz n n' : Nat} {xs xs' : List Value} (v : Value) (h : n = n') (h' : xs = xs') : ownA T sz v n xs = ownA T sz v n' xs' := by subst h h'; rfl
set_option maxHeartbeats 4000000 in
theorem ref15_Set_s {wb : Nat} {iv cv : Value} {cut : Dp} {l : LogL} (h : (logR wb iv cv cut l).p m) (hs : AscL l) (hl : l.length ≤ 100000) (i : Int × Int) (c : Cel) :
    CM Try.prog n_ref15_Log_Set [lpp wb, pv i, c.v] m (logR wb iv cv cut l) fun v A' => v = .bool (decide (mayS cut l i c)) ∧ ∃ iv' cv', A' = logR wb iv' cv' cut (if mayS cut l i c then insS i c l else l) := by
  by_cases hpre : rightI i ∧ ¬ i.2 ≤ cut.g i.1.toNat ∧ c.right
  · obtain ⟨h1, h2, h3⟩ := hpre
    have hng : ¬ (rightI i ∧ i.2 ≤ cut.g i.1.toNat) := fun h => h2 h.2
    obtain ⟨a, cc, rfl⟩ := (logR_C h).form
    obtain ⟨ai, ci, rfl⟩ := (logR_I h).form
    have hlm : (l.map (·.2)).length = l.length := List.length_map ..
    cases hlk : lkC i l with
    | some w =>
      have hk := lk_at hs hlk
      have hlt := (List.getElem?_eq_some_iff.1 hk).1
      have hins : insS i c l = l.set (kOf i l) (i, c) := by unfold insS; rw [hlk]; rfl
      have hfst : (l.set (kOf i l) (i, c)).map (·.1) = l.map (·.1) := by
        rw [List.map_set]
        apply List.ext_getElem?
        intro j
        rw [List.getElem?_set]
        split
        · rename_i e; subst e
          have e2 := (List.getElem?_eq_some_iff.1 hk).2
          simp [hlt, e2]
        · rfl
      have hmS : mayS cut l i c ↔ mayC w c := by unfold mayS oldOk; rw [hlk]; exact ⟨fun h => h.2.2.2, fun h => ⟨h1, h2, h3, h⟩⟩
      by_cases hm : mayC w c
      · rw [decide_eq_true (hmS.2 hm), if_pos (hmS.2 hm), hins]
        have eC : ∀ v, ownA T_api_Cell 21 v (l.map (·.2)).length (((l.map (·.2)).set (kOf i l) c).flatMap Cel.cs) = ownA T_api_Cell 21 v (l.set (kOf i l) (i, c)).length (((l.set (kOf i l) (i, c)).map (·.2)).flatMap Cel.cs) := fun v => by simp [List.map_set]
        have eC0 : ∀ v, ownA T_api_Cell 21 v l.length ((l.map (·.2)).flatMap Cel.cs) = ownA T_api_Cell 21 v (l.map (·.2)).length ((l.map (·.2)).flatMap Cel.cs) := fun v => by rw [List.length_map]
        have eI : ∀ v, ownA T_api_Inst 2 v l.length ((l.map (·.1)).flatMap pc) = ownA T_api_Inst 2 v (l.set (kOf i l) (i, c)).length (((l.set (kOf i l) (i, c)).map (·.1)).flatMap pc) := fun v => by rw [hfst, List.length_set]
        refine ref15_Log_Set_go (by simp [Try.f33]) ?_
        have H := Hq.one h
        simp (disch := omega) only [go_sem, undef]
        repeat' (first
          | ((with_reducible refine newQ H fun _ _ f H2 => ?_); clear f; clear H; have H := H2; clear H2; simp (disch := omega) only [go_sem, undef, H.cs, *, decide_eq_true h1, decide_eq_false hng, decide_eq_true h3, and_false, Option.isSome_some])
          | ((with_reducible refine wrQ0 H fun _ f H2 => ?_); clear f; clear H; have H := H2; clear H2; simp (disch := omega) only [go_sem, undef, H.cs, *, decide_eq_true h1, decide_eq_false hng, decide_eq_true h3, and_false, Option.isSome_some])
          | ((with_reducible refine wrQ1 H fun _ f H2 => ?_); clear f; clear H; have H := H2; clear H2; simp (disch := omega) only [go_sem, undef, H.cs, *, decide_eq_true h1, decide_eq_false hng, decide_eq_true h3, and_false, Option.isSome_some])
          | ((with_reducible refine wrQ2 H fun _ f H2 => ?_); clear f; clear H; have H := H2; clear H2; simp (disch := omega) only [go_sem, undef, H.cs, *, decide_eq_true h1, decide_eq_false hng, decide_eq_true h3, and_false, Option.isSome_some])
          | ((with_reducible refine wrQ3 H fun _ f H2 => ?_); clear f; clear H; have H := H2; clear H2; simp (disch := omega) only [go_sem, undef, H.cs, *, decide_eq_true h1, decide_eq_false hng, decide_eq_true h3, and_false, Option.isSome_some])
          | ((with_reducible refine wrQ4 H fun _ f H2 => ?_); clear f; clear H; have H := H2; clear H2; simp (disch := omega) only [go_sem, undef, H.cs, *, decide_eq_true h1, decide_eq_false hng, decide_eq_true h3, and_false, Option.isSome_some])
          | ((with_reducible refine wrQ5 H fun _ f H2 => ?_); clear f; clear H; have H := H2; clear H2; simp (disch := omega) only [go_sem, undef, H.cs, *, decide_eq_true h1, decide_eq_false hng, decide_eq_true h3, and_false, Option.isSome_some])
          | ((with_reducible refine stwQ0 H ?hl ?h1 fun _ f H2 => ?_); (case hl => rfl); (case h1 => rfl); clear f; clear H; have H := H2; clear H2; simp (disch := omega) only [go_sem, undef, H.cs, *, decide_eq_true h1, decide_eq_false hng, decide_eq_true h3, and_false, Option.isSome_some])
          | ((with_reducible refine stwQ1 H ?hl ?h1 fun _ f H2 => ?_); (case hl => rfl); (case h1 => rfl); clear f; clear H; have H := H2; clear H2; simp (disch := omega) only [go_sem, undef, H.cs, *, decide_eq_true h1, decide_eq_false hng, decide_eq_true h3, and_false, Option.isSome_some])
          | ((with_reducible refine stwQ2 H ?hl ?h1 fun _ f H2 => ?_); (case hl => rfl); (case h1 => rfl); clear f; clear H; have H := H2; clear H2; simp (disch := omega) only [go_sem, undef, H.cs, *, decide_eq_true h1, decide_eq_false hng, decide_eq_true h3, and_false, Option.isSome_some])
          | ((with_reducible refine stwQ3 H ?hl ?h1 fun _ f H2 => ?_); (case hl => rfl); (case h1 => rfl); clear f; clear H; have H := H2; clear H2; simp (disch := omega) only [go_sem, undef, H.cs, *, decide_eq_true h1, decide_eq_false hng, decide_eq_true h3, and_false, Option.isSome_some])
          | ((with_reducible refine stwQ4 H ?hl ?h1 fun _ f H2 => ?_); (case hl => rfl); (case h1 => rfl); clear f; clear H; have H := H2; clear H2; simp (disch := omega) only [go_sem, undef, H.cs, *, decide_eq_true h1, decide_eq_false hng, decide_eq_true h3, and_false, Option.isSome_some])
          | ((with_reducible refine stwQ5 H ?hl ?h1 fun _ f H2 => ?_); (case hl => rfl); (case h1 => rfl); clear f; clear H; have H := H2; clear H2; simp (disch := omega) only [go_sem, undef, H.cs, *, decide_eq_true h1, decide_eq_false hng, decide_eq_true h3, and_false, Option.isSome_some])
          | ((with_reducible refine stQ0 H ?hl ?h1 fun _ f H2 => ?_); (case hl => exact Nat.le_of_ble_eq_true rfl); (case h1 => rfl); clear f; (simp only [go_sem] at H2); clear H; have H := H2; clear H2; simp (disch := omega) only [go_sem, undef, H.cs, *, decide_eq_true h1, decide_eq_false hng, decide_eq_true h3, and_false, Option.isSome_some])
          | ((with_reducible refine stQ1 H ?hl ?h1 fun _ f H2 => ?_); (case hl => exact Nat.le_of_ble_eq_true rfl); (case h1 => rfl); clear f; (simp only [go_sem] at H2); clear H; have H := H2; clear H2; simp (disch := omega) only [go_sem, undef, H.cs, *, decide_eq_true h1, decide_eq_false hng, decide_eq_true h3, and_false, Option.isSome_some])
          | ((with_reducible refine stQ2 H ?hl ?h1 fun _ f H2 => ?_); (case hl => exact Nat.le_of_ble_eq_true rfl); (case h1 => rfl); clear f; (simp only [go_sem] at H2); clear H; have H := H2; clear H2; simp (disch := omega) only [go_sem, undef, H.cs, *, decide_eq_true h1, decide_eq_false hng, decide_eq_true h3, and_false, Option.isSome_some])
          | ((with_reducible refine stQ3 H ?hl ?h1 fun _ f H2 => ?_); (case hl => exact Nat.le_of_ble_eq_true rfl); (case h1 => rfl); clear f; (simp only [go_sem] at H2); clear H; have H := H2; clear H2; simp (disch := omega) only [go_sem, undef, H.cs, *, decide_eq_true h1, decide_eq_false hng, decide_eq_true h3, and_false, Option.isSome_some])
          | ((with_reducible refine callQ H (ref1_RightInst_s _ _) fun _ f H2 => ?_); clear f; clear H; have H := H2; clear H2; simp (disch := omega) only [go_sem, undef, H.cs, *, decide_eq_true h1, decide_eq_false hng, decide_eq_true h3, and_false, Option.isSome_some])
          | ((with_reducible refine tQ0 H (fun h => ref15_Gone_s h _) fun _ f H2 => ?_); clear f; clear H; have H := H2; clear H2; simp (disch := omega) only [go_sem, undef, H.cs, *, decide_eq_true h1, decide_eq_false hng, decide_eq_true h3, and_false, Option.isSome_some])
          | ((with_reducible refine tQ1 H (fun h => ref15_Gone_s h _) fun _ f H2 => ?_); clear f; clear H; have H := H2; clear H2; simp (disch := omega) only [go_sem, undef, H.cs, *, decide_eq_true h1, decide_eq_false hng, decide_eq_true h3, and_false, Option.isSome_some])
          | ((with_reducible refine tQ2 H (fun h => ref15_Gone_s h _) fun _ f H2 => ?_); clear f; clear H; have H := H2; clear H2; simp (disch := omega) only [go_sem, undef, H.cs, *, decide_eq_true h1, decide_eq_false hng, decide_eq_true h3, and_false, Option.isSome_some])
          | ((with_reducible refine tQ3 H (fun h => ref15_Gone_s h _) fun _ f H2 => ?_); clear f; clear H; have H := H2; clear H2; simp (disch := omega) only [go_sem, undef, H.cs, *, decide_eq_true h1, decide_eq_false hng, decide_eq_true h3, and_false, Option.isSome_some])
          | ((with_reducible refine tQ4 H (fun h => ref15_Gone_s h _) fun _ f H2 => ?_); clear f; clear H; have H := H2; clear H2; simp (disch := omega) only [go_sem, undef, H.cs, *, decide_eq_true h1, decide_eq_false hng, decide_eq_true h3, and_false, Option.isSome_some])
          | ((with_reducible refine callQ H (ref15_RightCell_s _ _) fun _ f H2 => ?_); clear f; clear H; have H := H2; clear H2; simp (disch := omega) only [go_sem, undef, H.cs, *, decide_eq_true h1, decide_eq_false hng, decide_eq_true h3, and_false, Option.isSome_some])
          | ((with_reducible refine tQ0 H (fun h => ref15_at_s h hs (by omega) _) fun _ f H2 => ?_); clear f; clear H; have H := H2; clear H2; simp (disch := omega) only [go_sem, undef, H.cs, *, decide_eq_true h1, decide_eq_false hng, decide_eq_true h3, and_false, Option.isSome_some])
          | ((with_reducible refine tQ1 H (fun h => ref15_at_s h hs (by omega) _) fun _ f H2 => ?_); clear f; clear H; have H := H2; clear H2; simp (disch := omega) only [go_sem, undef, H.cs, *, decide_eq_true h1, decide_eq_false hng, decide_eq_true h3, and_false, Option.isSome_some])
          | ((with_reducible refine tQ2 H (fun h => ref15_at_s h hs (by omega) _) fun _ f H2 => ?_); clear f; clear H; have H := H2; clear H2; simp (disch := omega) only [go_sem, undef, H.cs, *, decide_eq_true h1, decide_eq_false hng, decide_eq_true h3, and_false, Option.isSome_some])
          | ((with_reducible refine tQ3 H (fun h => ref15_at_s h hs (by omega) _) fun _ f H2 => ?_); clear f; clear H; have H := H2; clear H2; simp (disch := omega) only [go_sem, undef, H.cs, *, decide_eq_true h1, decide_eq_false hng, decide_eq_true h3, and_false, Option.isSome_some])
          | ((with_reducible refine tQ4 H (fun h => ref15_at_s h hs (by omega) _) fun _ f H2 => ?_); clear f; clear H; have H := H2; clear H2; simp (disch := omega) only [go_sem, undef, H.cs, *, decide_eq_true h1, decide_eq_false hng, decide_eq_true h3, and_false, Option.isSome_some])
          | ((with_reducible refine gQ_split (fun hq => ?_) (fun hq => ?_)) <;> (try simp only [Bool.not_true, Bool.not_false] at hq) <;> simp (disch := omega) only [go_sem, undef, H.cs, *, decide_eq_true h1, decide_eq_false hng, decide_eq_true h3, and_false, Option.isSome_some])
          | ((with_reducible refine condB_split (fun hq => ?_) (fun hq => ?_)) <;> simp (disch := omega) only [go_sem, undef, H.cs, *, decide_eq_true h1, decide_eq_false hng, decide_eq_true h3, and_false, Option.isSome_some]))
        refine RdS.elK (logR_C (H.at 2 rfl)) (i := kOf i l) (by rw [hlm]; exact hlt) (by decide) fun b3 o3 x hx hix hE => ?_
        have hxw : x = w := by rw [List.getElem?_map, hk] at hx; simpa using hx.symm
        subst hxw
        have hix2 := hix
        rw [hlm] at hix2
        simp (disch := omega) only [go_sem, undef, H.cs, hix2, hE.lda0]
        repeat' (first
          | ((with_reducible refine newQ H fun _ _ f H2 => ?_); clear f; clear H; have H := H2; clear H2; simp (disch := omega) only [go_sem, undef, H.cs, *, hix2, hE.lda0])
          | ((with_reducible refine wrQ0 H fun _ f H2 => ?_); clear f; clear H; have H := H2; clear H2; simp (disch := omega) only [go_sem, undef, H.cs, *, hix2, hE.lda0])
          | ((with_reducible refine wrQ1 H fun _ f H2 => ?_); clear f; clear H; have H := H2; clear H2; simp (disch := omega) only [go_sem, undef, H.cs, *, hix2, hE.lda0])
          | ((with_reducible refine wrQ2 H fun _ f H2 => ?_); clear f; clear H; have H := H2; clear H2; simp (disch := omega) only [go_sem, undef, H.cs, *, hix2, hE.lda0])
          | ((with_reducible refine wrQ3 H fun _ f H2 => ?_); clear f; clear H; have H := H2; clear H2; simp (disch := omega) only [go_sem, undef, H.cs, *, hix2, hE.lda0])
          | ((with_reducible refine wrQ4 H fun _ f H2 => ?_); clear f; clear H; have H := H2; clear H2; simp (disch := omega) only [go_sem, undef, H.cs, *, hix2, hE.lda0])
          | ((with_reducible refine wrQ5 H fun _ f H2 => ?_); clear f; clear H; have H := H2; clear H2; simp (disch := omega) only [go_sem, undef, H.cs, *, hix2, hE.lda0])
          | ((with_reducible refine stwQ0 H ?hl ?h1 fun _ f H2 => ?_); (case hl => rfl); (case h1 => rfl); clear f; clear H; have H := H2; clear H2; simp (disch := omega) only [go_sem, undef, H.cs, *, hix2, hE.lda0])
          | ((with_reducible refine stwQ1 H ?hl ?h1 fun _ f H2 => ?_); (case hl => rfl); (case h1 => rfl); clear f; clear H; have H := H2; clear H2; simp (disch := omega) only [go_sem, undef, H.cs, *, hix2, hE.lda0])
          | ((with_reducible refine stwQ2 H ?hl ?h1 fun _ f H2 => ?_); (case hl => rfl); (case h1 => rfl); clear f; clear H; have H := H2; clear H2; simp (disch := omega) only [go_sem, undef, H.cs, *, hix2, hE.lda0])
          | ((with_reducible refine stwQ3 H ?hl ?h1 fun _ f H2 => ?_); (case hl => rfl); (case h1 => rfl); clear f; clear H; have H := H2; clear H2; simp (disch := omega) only [go_sem, undef, H.cs, *, hix2, hE.lda0])
          | ((with_reducible refine stwQ4 H ?hl ?h1 fun _ f H2 => ?_); (case hl => rfl); (case h1 => rfl); clear f; clear H; have H := H2; clear H2; simp (disch := omega) only [go_sem, undef, H.cs, *, hix2, hE.lda0])
          | ((with_reducible refine stwQ5 H ?hl ?h1 fun _ f H2 => ?_); (case hl => rfl); (case h1 => rfl); clear f; clear H; have H := H2; clear H2; simp (disch := omega) only [go_sem, undef, H.cs, *, hix2, hE.lda0])
          | ((with_reducible refine stQ0 H ?hl ?h1 fun _ f H2 => ?_); (case hl => exact Nat.le_of_ble_eq_true rfl); (case h1 => rfl); clear f; (simp only [go_sem] at H2); clear H; have H := H2; clear H2; simp (disch := omega) only [go_sem, undef, H.cs, *, hix2, hE.lda0])
          | ((with_reducible refine stQ1 H ?hl ?h1 fun _ f H2 => ?_); (case hl => exact Nat.le_of_ble_eq_true rfl); (case h1 => rfl); clear f; (simp only [go_sem] at H2); clear H; have H := H2; clear H2; simp (disch := omega) only [go_sem, undef, H.cs, *, hix2, hE.lda0])
          | ((with_reducible refine stQ2 H ?hl ?h1 fun _ f H2 => ?_); (case hl => exact Nat.le_of_ble_eq_true rfl); (case h1 => rfl); clear f; (simp only [go_sem] at H2); clear H; have H := H2; clear H2; simp (disch := omega) only [go_sem, undef, H.cs, *, hix2, hE.lda0])
          | ((with_reducible refine stQ3 H ?hl ?h1 fun _ f H2 => ?_); (case hl => exact Nat.le_of_ble_eq_true rfl); (case h1 => rfl); clear f; (simp only [go_sem] at H2); clear H; have H := H2; clear H2; simp (disch := omega) only [go_sem, undef, H.cs, *, hix2, hE.lda0])
          | ((with_reducible refine callQ H (ref1_Below_s _ _ _) fun _ f H2 => ?_); clear f; clear H; have H := H2; clear H2; simp (disch := omega) only [go_sem, undef, H.cs, *, hix2, hE.lda0])
          | ((with_reducible refine gQ_split (fun hq => ?_) (fun hq => ?_)) <;> (try simp only [Bool.not_true, Bool.not_false] at hq) <;> simp (disch := omega) only [go_sem, undef, H.cs, *, hix2, hE.lda0])
          | ((with_reducible refine condB_split (fun hq => ?_) (fun hq => ?_)) <;> simp (disch := omega) only [go_sem, undef, H.cs, *, hix2, hE.lda0]))
        all_goals (try simp only [decide_eq_true_eq, decide_eq_false_iff_not] at *)
        all_goals first
          | (have H := upQ2 (logR_open (upQ3 H))
             rw [eC0] at H
             refine st_own H hix (by rw [hlm]; exact hlt) Cel.len c (Cel.one c) fun M _ H => ?_
             rw [eC, eI] at H
             simp (disch := omega) only [go_sem, undef]
             exact logR_end (logR_close (downQ2 H)) rfl)
          | (exfalso; clear H hE hix hix2 eC eC0 eI h; grind [mayC])
      · rw [decide_eq_false (fun h => hm (hmS.1 h)), if_neg (fun h => hm (hmS.1 h))]
        refine ref15_Log_Set_go (by simp [Try.f33]) ?_
        have H := Hq.one h
        simp (disch := omega) only [go_sem, undef]
        repeat' (first
          | ((with_reducible refine newQ H fun _ _ f H2 => ?_); clear f; clear H; have H := H2; clear H2; simp (disch := omega) only [go_sem, undef, H.cs, *, decide_eq_true h1, decide_eq_false hng, decide_eq_true h3, and_false, Option.isSome_some])
          | ((with_reducible refine wrQ0 H fun _ f H2 => ?_); clear f; clear H; have H := H2; clear H2; simp (disch := omega) only [go_sem, undef, H.cs, *, decide_eq_true h1, decide_eq_false hng, decide_eq_true h3, and_false, Option.isSome_some])
          | ((with_reducible refine wrQ1 H fun _ f H2 => ?_); clear f; clear H; have H := H2; clear H2; simp (disch := omega) only [go_sem, undef, H.cs, *, decide_eq_true h1, decide_eq_false hng, decide_eq_true h3, and_false, Option.isSome_some])
          | ((with_reducible refine wrQ2 H fun _ f H2 => ?_); clear f; clear H; have H := H2; clear H2; simp (disch := omega) only [go_sem, undef, H.cs, *, decide_eq_true h1, decide_eq_false hng, decide_eq_true h3, and_false, Option.isSome_some])
          | ((with_reducible refine wrQ3 H fun _ f H2 => ?_); clear f; clear H; have H := H2; clear H2; simp (disch := omega) only [go_sem, undef, H.cs, *, decide_eq_true h1, decide_eq_false hng, decide_eq_true h3, and_false, Option.isSome_some])
          | ((with_reducible refine wrQ4 H fun _ f H2 => ?_); clear f; clear H; have H := H2; clear H2; simp (disch := omega) only [go_sem, undef, H.cs, *, decide_eq_true h1, decide_eq_false hng, decide_eq_true h3, and_false, Option.isSome_some])
          | ((with_reducible refine wrQ5 H fun _ f H2 => ?_); clear f; clear H; have H := H2; clear H2; simp (disch := omega) only [go_sem, undef, H.cs, *, decide_eq_true h1, decide_eq_false hng, decide_eq_true h3, and_false, Option.isSome_some])
          | ((with_reducible refine stwQ0 H ?hl ?h1 fun _ f H2 => ?_); (case hl => rfl); (case h1 => rfl); clear f; clear H; have H := H2; clear H2; simp (disch := omega) only [go_sem, undef, H.cs, *, decide_eq_true h1, decide_eq_false hng, decide_eq_true h3, and_false, Option.isSome_some])
          | ((with_reducible refine stwQ1 H ?hl ?h1 fun _ f H2 => ?_); (case hl => rfl); (case h1 => rfl); clear f; clear H; have H := H2; clear H2; simp (disch := omega) only [go_sem, undef, H.cs, *, decide_eq_true h1, decide_eq_false hng, decide_eq_true h3, and_false, Option.isSome_some])
          | ((with_reducible refine stwQ2 H ?hl ?h1 fun _ f H2 => ?_); (case hl => rfl); (case h1 => rfl); clear f; clear H; have H := H2; clear H2; simp (disch := omega) only [go_sem, undef, H.cs, *, decide_eq_true h1, decide_eq_false hng, decide_eq_true h3, and_false, Option.isSome_some])
          | ((with_reducible refine stwQ3 H ?hl ?h1 fun _ f H2 => ?_); (case hl => rfl); (case h1 => rfl); clear f; clear H; have H := H2; clear H2; simp (disch := omega) only [go_sem, undef, H.cs, *, decide_eq_true h1, decide_eq_false hng, decide_eq_true h3, and_false, Option.isSome_some])
          | ((with_reducible refine stwQ4 H ?hl ?h1 fun _ f H2 => ?_); (case hl => rfl); (case h1 => rfl); clear f; clear H; have H := H2; clear H2; simp (disch := omega) only [go_sem, undef, H.cs, *, decide_eq_true h1, decide_eq_false hng, decide_eq_true h3, and_false, Option.isSome_some])
          | ((with_reducible refine stwQ5 H ?hl ?h1 fun _ f H2 => ?_); (case hl => rfl); (case h1 => rfl); clear f; clear H; have H := H2; clear H2; simp (disch := omega) only [go_sem, undef, H.cs, *, decide_eq_true h1, decide_eq_false hng, decide_eq_true h3, and_false, Option.isSome_some])
          | ((with_reducible refine stQ0 H ?hl ?h1 fun _ f H2 => ?_); (case hl => exact Nat.le_of_ble_eq_true rfl); (case h1 => rfl); clear f; (simp only [go_sem] at H2); clear H; have H := H2; clear H2; simp (disch := omega) only [go_sem, undef, H.cs, *, decide_eq_true h1, decide_eq_false hng, decide_eq_true h3, and_false, Option.isSome_some])
          | ((with_reducible refine stQ1 H ?hl ?h1 fun _ f H2 => ?_); (case hl => exact Nat.le_of_ble_eq_true rfl); (case h1 => rfl); clear f; (simp only [go_sem] at H2); clear H; have H := H2; clear H2; simp (disch := omega) only [go_sem, undef, H.cs, *, decide_eq_true h1, decide_eq_false hng, decide_eq_true h3, and_false, Option.isSome_some])
          | ((with_reducible refine stQ2 H ?hl ?h1 fun _ f H2 => ?_); (case hl => exact Nat.le_of_ble_eq_true rfl); (case h1 => rfl); clear f; (simp only [go_sem] at H2); clear H; have H := H2; clear H2; simp (disch := omega) only [go_sem, undef, H.cs, *, decide_eq_true h1, decide_eq_false hng, decide_eq_true h3, and_false, Option.isSome_some])
          | ((with_reducible refine stQ3 H ?hl ?h1 fun _ f H2 => ?_); (case hl => exact Nat.le_of_ble_eq_true rfl); (case h1 => rfl); clear f; (simp only [go_sem] at H2); clear H; have H := H2; clear H2; simp (disch := omega) only [go_sem, undef, H.cs, *, decide_eq_true h1, decide_eq_false hng, decide_eq_true h3, and_false, Option.isSome_some])
          | ((with_reducible refine callQ H (ref1_RightInst_s _ _) fun _ f H2 => ?_); clear f; clear H; have H := H2; clear H2; simp (disch := omega) only [go_sem, undef, H.cs, *, decide_eq_true h1, decide_eq_false hng, decide_eq_true h3, and_false, Option.isSome_some])
          | ((with_reducible refine tQ0 H (fun h => ref15_Gone_s h _) fun _ f H2 => ?_); clear f; clear H; have H := H2; clear H2; simp (disch := omega) only [go_sem, undef, H.cs, *, decide_eq_true h1, decide_eq_false hng, decide_eq_true h3, and_false, Option.isSome_some])
          | ((with_reducible refine tQ1 H (fun h => ref15_Gone_s h _) fun _ f H2 => ?_); clear f; clear H; have H := H2; clear H2; simp (disch := omega) only [go_sem, undef, H.cs, *, decide_eq_true h1, decide_eq_false hng, decide_eq_true h3, and_false, Option.isSome_some])
          | ((with_reducible refine tQ2 H (fun h => ref15_Gone_s h _) fun _ f H2 => ?_); clear f; clear H; have H := H2; clear H2; simp (disch := omega) only [go_sem, undef, H.cs, *, decide_eq_true h1, decide_eq_false hng, decide_eq_true h3, and_false, Option.isSome_some])
          | ((with_reducible refine tQ3 H (fun h => ref15_Gone_s h _) fun _ f H2 => ?_); clear f; clear H; have H := H2; clear H2; simp (disch := omega) only [go_sem, undef, H.cs, *, decide_eq_true h1, decide_eq_false hng, decide_eq_true h3, and_false, Option.isSome_some])
          | ((with_reducible refine tQ4 H (fun h => ref15_Gone_s h _) fun _ f H2 => ?_); clear f; clear H; have H := H2; clear H2; simp (disch := omega) only [go_sem, undef, H.cs, *, decide_eq_true h1, decide_eq_false hng, decide_eq_true h3, and_false, Option.isSome_some])
          | ((with_reducible refine callQ H (ref15_RightCell_s _ _) fun _ f H2 => ?_); clear f; clear H; have H := H2; clear H2; simp (disch := omega) only [go_sem, undef, H.cs, *, decide_eq_true h1, decide_eq_false hng, decide_eq_true h3, and_false, Option.isSome_some])
          | ((with_reducible refine tQ0 H (fun h => ref15_at_s h hs (by omega) _) fun _ f H2 => ?_); clear f; clear H; have H := H2; clear H2; simp (disch := omega) only [go_sem, undef, H.cs, *, decide_eq_true h1, decide_eq_false hng, decide_eq_true h3, and_false, Option.isSome_some])
          | ((with_reducible refine tQ1 H (fun h => ref15_at_s h hs (by omega) _) fun _ f H2 => ?_); clear f; clear H; have H := H2; clear H2; simp (disch := omega) only [go_sem, undef, H.cs, *, decide_eq_true h1, decide_eq_false hng, decide_eq_true h3, and_false, Option.isSome_some])
          | ((with_reducible refine tQ2 H (fun h => ref15_at_s h hs (by omega) _) fun _ f H2 => ?_); clear f; clear H; have H := H2; clear H2; simp (disch := omega) only [go_sem, undef, H.cs, *, decide_eq_true h1, decide_eq_false hng, decide_eq_true h3, and_false, Option.isSome_some])
          | ((with_reducible refine tQ3 H (fun h => ref15_at_s h hs (by omega) _) fun _ f H2 => ?_); clear f; clear H; have H := H2; clear H2; simp (disch := omega) only [go_sem, undef, H.cs, *, decide_eq_true h1, decide_eq_false hng, decide_eq_true h3, and_false, Option.isSome_some])
          | ((with_reducible refine tQ4 H (fun h => ref15_at_s h hs (by omega) _) fun _ f H2 => ?_); clear f; clear H; have H := H2; clear H2; simp (disch := omega) only [go_sem, undef, H.cs, *, decide_eq_true h1, decide_eq_false hng, decide_eq_true h3, and_false, Option.isSome_some])
          | ((with_reducible refine gQ_split (fun hq => ?_) (fun hq => ?_)) <;> (try simp only [Bool.not_true, Bool.not_false] at hq) <;> simp (disch := omega) only [go_sem, undef, H.cs, *, decide_eq_true h1, decide_eq_false hng, decide_eq_true h3, and_false, Option.isSome_some])
          | ((with_reducible refine condB_split (fun hq => ?_) (fun hq => ?_)) <;> simp (disch := omega) only [go_sem, undef, H.cs, *, decide_eq_true h1, decide_eq_false hng, decide_eq_true h3, and_false, Option.isSome_some]))
        refine RdS.elK (logR_C (H.at 2 rfl)) (i := kOf i l) (by rw [hlm]; exact hlt) (by decide) fun b3 o3 x hx hix hE => ?_
        have hxw : x = w := by rw [List.getElem?_map, hk] at hx; simpa using hx.symm
        subst hxw
        have hix2 := hix
        rw [hlm] at hix2
        simp (disch := omega) only [go_sem, undef, H.cs, hix2, hE.lda0]
        repeat' (first
          | ((with_reducible refine newQ H fun _ _ f H2 => ?_); clear f; clear H; have H := H2; clear H2; simp (disch := omega) only [go_sem, undef, H.cs, *, hix2, hE.lda0])
          | ((with_reducible refine wrQ0 H fun _ f H2 => ?_); clear f; clear H; have H := H2; clear H2; simp (disch := omega) only [go_sem, undef, H.cs, *, hix2, hE.lda0])
          | ((with_reducible refine wrQ1 H fun _ f H2 => ?_); clear f; clear H; have H := H2; clear H2; simp (disch := omega) only [go_sem, undef, H.cs, *, hix2, hE.lda0])
          | ((with_reducible refine wrQ2 H fun _ f H2 => ?_); clear f; clear H; have H := H2; clear H2; simp (disch := omega) only [go_sem, undef, H.cs, *, hix2, hE.lda0])
          | ((with_reducible refine wrQ3 H fun _ f H2 => ?_); clear f; clear H; have H := H2; clear H2; simp (disch := omega) only [go_sem, undef, H.cs, *, hix2, hE.lda0])
          | ((with_reducible refine wrQ4 H fun _ f H2 => ?_); clear f; clear H; have H := H2; clear H2; simp (disch := omega) only [go_sem, undef, H.cs, *, hix2, hE.lda0])
          | ((with_reducible refine wrQ5 H fun _ f H2 => ?_); clear f; clear H; have H := H2; clear H2; simp (disch := omega) only [go_sem, undef, H.cs, *, hix2, hE.lda0])
          | ((with_reducible refine stwQ0 H ?hl ?h1 fun _ f H2 => ?_); (case hl => rfl); (case h1 => rfl); clear f; clear H; have H := H2; clear H2; simp (disch := omega) only [go_sem, undef, H.cs, *, hix2, hE.lda0])
          | ((with_reducible refine stwQ1 H ?hl ?h1 fun _ f H2 => ?_); (case hl => rfl); (case h1 => rfl); clear f; clear H; have H := H2; clear H2; simp (disch := omega) only [go_sem, undef, H.cs, *, hix2, hE.lda0])
          | ((with_reducible refine stwQ2 H ?hl ?h1 fun _ f H2 => ?_); (case hl => rfl); (case h1 => rfl); clear f; clear H; have H := H2; clear H2; simp (disch := omega) only [go_sem, undef, H.cs, *, hix2, hE.lda0])
          | ((with_reducible refine stwQ3 H ?hl ?h1 fun _ f H2 => ?_); (case hl => rfl); (case h1 => rfl); clear f; clear H; have H := H2; clear H2; simp (disch := omega) only [go_sem, undef, H.cs, *, hix2, hE.lda0])
          | ((with_reducible refine stwQ4 H ?hl ?h1 fun _ f H2 => ?_); (case hl => rfl); (case h1 => rfl); clear f; clear H; have H := H2; clear H2; simp (disch := omega) only [go_sem, undef, H.cs, *, hix2, hE.lda0])
          | ((with_reducible refine stwQ5 H ?hl ?h1 fun _ f H2 => ?_); (case hl => rfl); (case h1 => rfl); clear f; clear H; have H := H2; clear H2; simp (disch := omega) only [go_sem, undef, H.cs, *, hix2, hE.lda0])
          | ((with_reducible refine stQ0 H ?hl ?h1 fun _ f H2 => ?_); (case hl => exact Nat.le_of_ble_eq_true rfl); (case h1 => rfl); clear f; (simp only [go_sem] at H2); clear H; have H := H2; clear H2; simp (disch := omega) only [go_sem, undef, H.cs, *, hix2, hE.lda0])
          | ((with_reducible refine stQ1 H ?hl ?h1 fun _ f H2 => ?_); (case hl => exact Nat.le_of_ble_eq_true rfl); (case h1 => rfl); clear f; (simp only [go_sem] at H2); clear H; have H := H2; clear H2; simp (disch := omega) only [go_sem, undef, H.cs, *, hix2, hE.lda0])
          | ((with_reducible refine stQ2 H ?hl ?h1 fun _ f H2 => ?_); (case hl => exact Nat.le_of_ble_eq_true rfl); (case h1 => rfl); clear f; (simp only [go_sem] at H2); clear H; have H := H2; clear H2; simp (disch := omega) only [go_sem, undef, H.cs, *, hix2, hE.lda0])
          | ((with_reducible refine stQ3 H ?hl ?h1 fun _ f H2 => ?_); (case hl => exact Nat.le_of_ble_eq_true rfl); (case h1 => rfl); clear f; (simp only [go_sem] at H2); clear H; have H := H2; clear H2; simp (disch := omega) only [go_sem, undef, H.cs, *, hix2, hE.lda0])
          | ((with_reducible refine callQ H (ref1_Below_s _ _ _) fun _ f H2 => ?_); clear f; clear H; have H := H2; clear H2; simp (disch := omega) only [go_sem, undef, H.cs, *, hix2, hE.lda0])
          | ((with_reducible refine gQ_split (fun hq => ?_) (fun hq => ?_)) <;> (try simp only [Bool.not_true, Bool.not_false] at hq) <;> simp (disch := omega) only [go_sem, undef, H.cs, *, hix2, hE.lda0])
          | ((with_reducible refine condB_split (fun hq => ?_) (fun hq => ?_)) <;> simp (disch := omega) only [go_sem, undef, H.cs, *, hix2, hE.lda0]))
        all_goals (try simp only [decide_eq_true_eq, decide_eq_false_iff_not] at *)
        all_goals first
          | exact post_intro (logR_end (upQ3 H) rfl)
          | (exfalso; clear H hE hix hix2 h; grind [mayC])
    | none =>
      have hmt : mayS cut l i c := ⟨h1, h2, h3, by rw [hlk]; trivial⟩
      have hins : insS i c l = l.take (kOf i l) ++ (i, c) :: l.drop (kOf i l) := by unfold insS; rw [hlk]; rfl
      rw [decide_eq_true hmt, if_pos hmt, hins]
      have hkl := kOf_le i l
      have hlm1 : (l.map (·.1)).length = l.length := List.length_map ..
      obtain ⟨a1, c1, hs1, hS1⟩ := (logR_I h).cutA (by decide) 0 (kOf i l) (by omega) (by omega)
      obtain ⟨a2, c2, hs2, hS2⟩ := (logR_I h).cutA (by decide) (kOf i l) l.length (by omega) (by omega)
      obtain ⟨a3, c3, hs3, hS3⟩ := (logR_C h).cutA (by decide) 0 (kOf i l) (by omega) (by omega)
      obtain ⟨a4, c4, hs4, hS4⟩ := (logR_C h).cutA (by decide) (kOf i l) l.length (by omega) (by omega)
      rw [Nat.sub_zero] at hs1 hs3
      simp only [Int.natCast_zero] at hs1 hs3
      generalize hl' : l.take (kOf i l) ++ (i, c) :: l.drop (kOf i l) = l' at *
      have hll : l'.length = 0 + kOf i l + 1 + (l.length - kOf i l) := by rw [← hl']; simp; omega
      have hl11 : (((l.map (·.1)).take (kOf i l)).drop 0).length = kOf i l := by simp; omega
      have hl21 : (((l.map (·.1)).take l.length).drop (kOf i l)).length = l.length - kOf i l := by simp
      have hl12 : (((l.map (·.2)).take (kOf i l)).drop 0).length = kOf i l := by simp; omega
      have hl22 : (((l.map (·.2)).take l.length).drop (kOf i l)).length = l.length - kOf i l := by simp
      have honeI : ∀ r : List (Int × Int), ∀ v ∈ r.flatMap pc, v.oneCell' = true := fun r v hv => by
        obtain ⟨p, _, hv⟩ := List.mem_flatMap.1 hv
        exact List.all_eq_true.1 (pc_one p) v hv
      have honeC : ∀ r : List Cel, ∀ v ∈ r.flatMap Cel.cs, v.oneCell' = true := fun r v hv => by
        obtain ⟨p, _, hv⟩ := List.mem_flatMap.1 hv
        exact List.all_eq_true.1 (Cel.one p) v hv
      have hXI : ∀ v, ownA T_api_Inst 2 v (0 + kOf i l + 1 + (l.length - kOf i l)) (((List.take (0 * 2) [] ++ (((l.map (·.1)).take (kOf i l)).drop 0).flatMap pc) ++ (pc i).take (1 * 2)) ++ (((l.map (·.1)).take l.length).drop (kOf i l)).flatMap pc) = ownA T_api_Inst 2 v l'.length ((l'.map (·.1)).flatMap pc) := fun v => by
        refine ownA_eq v hll.symm ?_
        rw [← hl', List.take_of_length_le (l := pc i) (by rw [pc_len]; decide), ← hlm1, List.take_length]
        simp [List.map_take, List.map_drop]
      have hXC : ∀ v, ownA T_api_Cell 21 v (0 + kOf i l + 1 + (l.length - kOf i l)) (((List.take (0 * 21) [] ++ (((l.map (·.2)).take (kOf i l)).drop 0).flatMap Cel.cs) ++ (Cel.cs c).take (1 * 21)) ++ (((l.map (·.2)).take l.length).drop (kOf i l)).flatMap Cel.cs) = ownA T_api_Cell 21 v l'.length ((l'.map (·.2)).flatMap Cel.cs) := fun v => by
        refine ownA_eq v hll.symm ?_
        rw [← hl', List.take_of_length_le (l := Cel.cs c) (by rw [Cel.len]; decide), ← hlm, List.take_length]
        simp [List.map_take, List.map_drop]
      refine ref15_Log_Set_go (by simp [Try.f33]) ?_
      have H := Hq.one h
      simp (disch := omega) only [go_sem, undef]
      refine newQ H fun b1 _ _ H => ?_
      simp (disch := omega) only [go_sem, undef]
      refine newQ H fun b2 _ _ H => ?_
      simp (disch := omega) only [go_sem, undef, H.cs]
      repeat' (first
        | ((with_reducible refine newQ H fun _ _ f H2 => ?_); clear f; clear H; have H := H2; clear H2; simp (disch := omega) only [go_sem, undef, H.cs, *, decide_eq_true h1, decide_eq_false hng, decide_eq_true h3, and_false, Option.isSome_none])
        | ((with_reducible refine wrQ0 H fun _ f H2 => ?_); clear f; clear H; have H := H2; clear H2; simp (disch := omega) only [go_sem, undef, H.cs, *, decide_eq_true h1, decide_eq_false hng, decide_eq_true h3, and_false, Option.isSome_none])
        | ((with_reducible refine wrQ1 H fun _ f H2 => ?_); clear f; clear H; have H := H2; clear H2; simp (disch := omega) only [go_sem, undef, H.cs, *, decide_eq_true h1, decide_eq_false hng, decide_eq_true h3, and_false, Option.isSome_none])
        | ((with_reducible refine wrQ2 H fun _ f H2 => ?_); clear f; clear H; have H := H2; clear H2; simp (disch := omega) only [go_sem, undef, H.cs, *, decide_eq_true h1, decide_eq_false hng, decide_eq_true h3, and_false, Option.isSome_none])
        | ((with_reducible refine wrQ3 H fun _ f H2 => ?_); clear f; clear H; have H := H2; clear H2; simp (disch := omega) only [go_sem, undef, H.cs, *, decide_eq_true h1, decide_eq_false hng, decide_eq_true h3, and_false, Option.isSome_none])
        | ((with_reducible refine wrQ4 H fun _ f H2 => ?_); clear f; clear H; have H := H2; clear H2; simp (disch := omega) only [go_sem, undef, H.cs, *, decide_eq_true h1, decide_eq_false hng, decide_eq_true h3, and_false, Option.isSome_none])
        | ((with_reducible refine wrQ5 H fun _ f H2 => ?_); clear f; clear H; have H := H2; clear H2; simp (disch := omega) only [go_sem, undef, H.cs, *, decide_eq_true h1, decide_eq_false hng, decide_eq_true h3, and_false, Option.isSome_none])
        | ((with_reducible refine stwQ0 H ?hl ?h1 fun _ f H2 => ?_); (case hl => rfl); (case h1 => rfl); clear f; clear H; have H := H2; clear H2; simp (disch := omega) only [go_sem, undef, H.cs, *, decide_eq_true h1, decide_eq_false hng, decide_eq_true h3, and_false, Option.isSome_none])
        | ((with_reducible refine stwQ1 H ?hl ?h1 fun _ f H2 => ?_); (case hl => rfl); (case h1 => rfl); clear f; clear H; have H := H2; clear H2; simp (disch := omega) only [go_sem, undef, H.cs, *, decide_eq_true h1, decide_eq_false hng, decide_eq_true h3, and_false, Option.isSome_none])
        | ((with_reducible refine stwQ2 H ?hl ?h1 fun _ f H2 => ?_); (case hl => rfl); (case h1 => rfl); clear f; clear H; have H := H2; clear H2; simp (disch := omega) only [go_sem, undef, H.cs, *, decide_eq_true h1, decide_eq_false hng, decide_eq_true h3, and_false, Option.isSome_none])
        | ((with_reducible refine stwQ3 H ?hl ?h1 fun _ f H2 => ?_); (case hl => rfl); (case h1 => rfl); clear f; clear H; have H := H2; clear H2; simp (disch := omega) only [go_sem, undef, H.cs, *, decide_eq_true h1, decide_eq_false hng, decide_eq_true h3, and_false, Option.isSome_none])
        | ((with_reducible refine stwQ4 H ?hl ?h1 fun _ f H2 => ?_); (case hl => rfl); (case h1 => rfl); clear f; clear H; have H := H2; clear H2; simp (disch := omega) only [go_sem, undef, H.cs, *, decide_eq_true h1, decide_eq_false hng, decide_eq_true h3, and_false, Option.isSome_none])
        | ((with_reducible refine stwQ5 H ?hl ?h1 fun _ f H2 => ?_); (case hl => rfl); (case h1 => rfl); clear f; clear H; have H := H2; clear H2; simp (disch := omega) only [go_sem, undef, H.cs, *, decide_eq_true h1, decide_eq_false hng, decide_eq_true h3, and_false, Option.isSome_none])
        | ((with_reducible refine stQ0 H ?hl ?h1 fun _ f H2 => ?_); (case hl => exact Nat.le_of_ble_eq_true rfl); (case h1 => rfl); clear f; (simp only [go_sem] at H2); clear H; have H := H2; clear H2; simp (disch := omega) only [go_sem, undef, H.cs, *, decide_eq_true h1, decide_eq_false hng, decide_eq_true h3, and_false, Option.isSome_none])
        | ((with_reducible refine stQ1 H ?hl ?h1 fun _ f H2 => ?_); (case hl => exact Nat.le_of_ble_eq_true rfl); (case h1 => rfl); clear f; (simp only [go_sem] at H2); clear H; have H := H2; clear H2; simp (disch := omega) only [go_sem, undef, H.cs, *, decide_eq_true h1, decide_eq_false hng, decide_eq_true h3, and_false, Option.isSome_none])
        | ((with_reducible refine stQ2 H ?hl ?h1 fun _ f H2 => ?_); (case hl => exact Nat.le_of_ble_eq_true rfl); (case h1 => rfl); clear f; (simp only [go_sem] at H2); clear H; have H := H2; clear H2; simp (disch := omega) only [go_sem, undef, H.cs, *, decide_eq_true h1, decide_eq_false hng, decide_eq_true h3, and_false, Option.isSome_none])
        | ((with_reducible refine stQ3 H ?hl ?h1 fun _ f H2 => ?_); (case hl => exact Nat.le_of_ble_eq_true rfl); (case h1 => rfl); clear f; (simp only [go_sem] at H2); clear H; have H := H2; clear H2; simp (disch := omega) only [go_sem, undef, H.cs, *, decide_eq_true h1, decide_eq_false hng, decide_eq_true h3, and_false, Option.isSome_none])
        | ((with_reducible refine callQ H (ref1_RightInst_s _ _) fun _ f H2 => ?_); clear f; clear H; have H := H2; clear H2; simp (disch := omega) only [go_sem, undef, H.cs, *, decide_eq_true h1, decide_eq_false hng, decide_eq_true h3, and_false, Option.isSome_none])
        | ((with_reducible refine tQ0 H (fun h => ref15_Gone_s h _) fun _ f H2 => ?_); clear f; clear H; have H := H2; clear H2; simp (disch := omega) only [go_sem, undef, H.cs, *, decide_eq_true h1, decide_eq_false hng, decide_eq_true h3, and_false, Option.isSome_none])
        | ((with_reducible refine tQ1 H (fun h => ref15_Gone_s h _) fun _ f H2 => ?_); clear f; clear H; have H := H2; clear H2; simp (disch := omega) only [go_sem, undef, H.cs, *, decide_eq_true h1, decide_eq_false hng, decide_eq_true h3, and_false, Option.isSome_none])
        | ((with_reducible refine tQ2 H (fun h => ref15_Gone_s h _) fun _ f H2 => ?_); clear f; clear H; have H := H2; clear H2; simp (disch := omega) only [go_sem, undef, H.cs, *, decide_eq_true h1, decide_eq_false hng, decide_eq_true h3, and_false, Option.isSome_none])
        | ((with_reducible refine tQ3 H (fun h => ref15_Gone_s h _) fun _ f H2 => ?_); clear f; clear H; have H := H2; clear H2; simp (disch := omega) only [go_sem, undef, H.cs, *, decide_eq_true h1, decide_eq_false hng, decide_eq_true h3, and_false, Option.isSome_none])
        | ((with_reducible refine tQ4 H (fun h => ref15_Gone_s h _) fun _ f H2 => ?_); clear f; clear H; have H := H2; clear H2; simp (disch := omega) only [go_sem, undef, H.cs, *, decide_eq_true h1, decide_eq_false hng, decide_eq_true h3, and_false, Option.isSome_none])
        | ((with_reducible refine callQ H (ref15_RightCell_s _ _) fun _ f H2 => ?_); clear f; clear H; have H := H2; clear H2; simp (disch := omega) only [go_sem, undef, H.cs, *, decide_eq_true h1, decide_eq_false hng, decide_eq_true h3, and_false, Option.isSome_none])
        | ((with_reducible refine tQ0 H (fun h => ref15_at_s h hs (by omega) _) fun _ f H2 => ?_); clear f; clear H; have H := H2; clear H2; simp (disch := omega) only [go_sem, undef, H.cs, *, decide_eq_true h1, decide_eq_false hng, decide_eq_true h3, and_false, Option.isSome_none])
        | ((with_reducible refine tQ1 H (fun h => ref15_at_s h hs (by omega) _) fun _ f H2 => ?_); clear f; clear H; have H := H2; clear H2; simp (disch := omega) only [go_sem, undef, H.cs, *, decide_eq_true h1, decide_eq_false hng, decide_eq_true h3, and_false, Option.isSome_none])
        | ((with_reducible refine tQ2 H (fun h => ref15_at_s h hs (by omega) _) fun _ f H2 => ?_); clear f; clear H; have H := H2; clear H2; simp (disch := omega) only [go_sem, undef, H.cs, *, decide_eq_true h1, decide_eq_false hng, decide_eq_true h3, and_false, Option.isSome_none])
        | ((with_reducible refine tQ3 H (fun h => ref15_at_s h hs (by omega) _) fun _ f H2 => ?_); clear f; clear H; have H := H2; clear H2; simp (disch := omega) only [go_sem, undef, H.cs, *, decide_eq_true h1, decide_eq_false hng, decide_eq_true h3, and_false, Option.isSome_none])
        | ((with_reducible refine tQ4 H (fun h => ref15_at_s h hs (by omega) _) fun _ f H2 => ?_); clear f; clear H; have H := H2; clear H2; simp (disch := omega) only [go_sem, undef, H.cs, *, decide_eq_true h1, decide_eq_false hng, decide_eq_true h3, and_false, Option.isSome_none])
        | ((with_reducible refine gQ_split (fun hq => ?_) (fun hq => ?_)) <;> (try simp only [Bool.not_true, Bool.not_false] at hq) <;> simp (disch := omega) only [go_sem, undef, H.cs, *, decide_eq_true h1, decide_eq_false hng, decide_eq_true h3, and_false, Option.isSome_none])
        | ((with_reducible refine condB_split (fun hq => ?_) (fun hq => ?_)) <;> simp (disch := omega) only [go_sem, undef, H.cs, *, decide_eq_true h1, decide_eq_false hng, decide_eq_true h3, and_false, Option.isSome_none]))
      have H := logR_open (upQ2 H)
      rw [hlm, hlm1] at H
      refine both_cut (fun E M => ∃ au cu, E = [(0, lpp wb), (5, .pointer (some ⟨b2, 0, none⟩)), (7, .int .i64 (kOf i l : Nat))] ∧ Hq m M (logR wb (.slice ai (l.map (·.1)).length ci) (.slice a (l.map (·.2)).length cc) cut l).wp [cellA wb (.cells (Value.slice au l'.length cu :: Value.slice a l.length cc :: dv cut).toArray T_ref15_Log (0, 0)), ownA T_api_Inst 2 (.slice au l'.length cu) l'.length ((l'.map (·.1)).flatMap pc), ownA T_api_Cell 21 (.slice a l.length cc) l.length ((l.map (·.2)).flatMap Cel.cs), cellA b2 (.cells c.cs.toArray T_api_Cell (0, 0)), cellA b1 (.cells (pc i).toArray T_api_Inst (0, 0))]) ?_ ?_
      rotate_left
      · simp (disch := omega) only [go_sem, undef, H.cs]
        refine both_intro ?_ ?_
        · simp (disch := omega) only [go_sem, undef, H.cs]
          refine newQ H fun b3 M _ H => ?_
          have H := H.toRow 2 0 0 (by simp) (by omega)
          simp (disch := omega) only [go_sem, undef, H.cs]
          refine both_intro ?_ ?_
          · simp (disch := omega) only [go_sem, undef, H.cs]
            have hy := hS1 _ (Own.rds (l := l.map (·.1)) (by decide) pc_len (by rw [hlm1]; exact H.at 2 rfl))
            have hld := ldS_of (l := (((l.map (·.1)).take (kOf i l)).drop 0)) (by rw [hl11]; exact hy)
            rw [hl11] at hld
            refine appQ0 H (k := kOf i l) rfl hld (by rw [fm_len pc_len, hl11]) (honeI _) rfl (by omega) (by omega) fun u M _ H => ?_
            simp (disch := omega) only [go_sem, undef, H.cs]
            refine newQ H fun b4 M _ H => ?_
            simp (disch := omega) only [go_sem, undef, H.cs]
            refine appQ1 H (k := 1) rfl (ldS_cell (l := pc i) H.cs.1 (by rw [pc_len]; decide)) (by rw [List.take_of_length_le (by rw [pc_len]; decide), pc_len]) (fun v hv => List.all_eq_true.1 (pc_one i) v (List.mem_of_mem_take hv)) rfl (by omega) (by omega) fun u M _ H => ?_
            simp (disch := omega) only [go_sem, undef, H.cs]
            have hy := hS2 _ (Own.rds (l := l.map (·.1)) (by decide) pc_len (by rw [hlm1]; exact H.at 3 rfl))
            have hld := ldS_of (l := (((l.map (·.1)).take l.length).drop (kOf i l))) (by rw [hl21]; exact hy)
            rw [hl21] at hld
            refine appQ1 H (k := l.length - kOf i l) rfl hld (by rw [fm_len pc_len, hl21]) (honeI _) rfl (by omega) (by omega) fun u M _ H => ?_
            rw [hXI u] at H
            refine Own.formK (H.at 1 rfl) fun au cu e => ?_
            subst e
            simp (disch := omega) only [go_sem, undef, H.cs]
            refine wrQ2 H fun M _ H => ?_
            simp (disch := omega) only [go_sem, undef]
            have H := H.tail
            exact ⟨_, _, downQ1 (dropQ2 H)⟩
          · simp (disch := omega) only [go_sem, undef, H.cs]
            refine newQ H fun b4 M _ H => ?_
            simp (disch := omega) only [go_sem, undef, H.cs]
            have hy := hS1 _ (Own.rds (l := l.map (·.1)) (by decide) pc_len (by rw [hlm1]; exact H.at 3 rfl))
            have hld := ldS_of (l := (((l.map (·.1)).take (kOf i l)).drop 0)) (by rw [hl11]; exact hy)
            rw [hl11] at hld
            refine appQ1 H (k := kOf i l) rfl hld (by rw [fm_len pc_len, hl11]) (honeI _) rfl (by omega) (by omega) fun u M _ H => ?_
            simp (disch := omega) only [go_sem, undef, H.cs]
            refine appQ1 H (k := 1) rfl (ldS_cell (l := pc i) H.cs.1 (by rw [pc_len]; decide)) (by rw [List.take_of_length_le (by rw [pc_len]; decide), pc_len]) (fun v hv => List.all_eq_true.1 (pc_one i) v (List.mem_of_mem_take hv)) rfl (by omega) (by omega) fun u M _ H => ?_
            simp (disch := omega) only [go_sem, undef, H.cs]
            have hy := hS2 _ (Own.rds (l := l.map (·.1)) (by decide) pc_len (by rw [hlm1]; exact H.at 3 rfl))
            have hld := ldS_of (l := (((l.map (·.1)).take l.length).drop (kOf i l))) (by rw [hl21]; exact hy)
            rw [hl21] at hld
            refine appQ1 H (k := l.length - kOf i l) rfl hld (by rw [fm_len pc_len, hl21]) (honeI _) rfl (by omega) (by omega) fun u M _ H => ?_
            rw [hXI u] at H
            refine Own.formK (H.at 1 rfl) fun au cu e => ?_
            subst e
            simp (disch := omega) only [go_sem, undef, H.cs]
            refine wrQ2 H fun M _ H => ?_
            simp (disch := omega) only [go_sem, undef]
            have H := H.tail
            exact ⟨_, _, downQ1 (dropQ2 H)⟩
        · simp (disch := omega) only [go_sem, undef, H.cs]
          refine newQ H fun b4 M _ H => ?_
          simp (disch := omega) only [go_sem, undef, H.cs]
          refine newQ H fun b3 M _ H => ?_
          have H := H.toRow 2 0 0 (by simp) (by omega)
          simp (disch := omega) only [go_sem, undef, H.cs]
          have hy := hS1 _ (Own.rds (l := l.map (·.1)) (by decide) pc_len (by rw [hlm1]; exact H.at 3 rfl))
          have hld := ldS_of (l := (((l.map (·.1)).take (kOf i l)).drop 0)) (by rw [hl11]; exact hy)
          rw [hl11] at hld
          refine appQ0 H (k := kOf i l) rfl hld (by rw [fm_len pc_len, hl11]) (honeI _) rfl (by omega) (by omega) fun u M _ H => ?_
          simp (disch := omega) only [go_sem, undef, H.cs]
          refine appQ0 H (k := 1) rfl (ldS_cell (l := pc i) H.cs.1 (by rw [pc_len]; decide)) (by rw [List.take_of_length_le (by rw [pc_len]; decide), pc_len]) (fun v hv => List.all_eq_true.1 (pc_one i) v (List.mem_of_mem_take hv)) rfl (by omega) (by omega) fun u M _ H => ?_
          simp (disch := omega) only [go_sem, undef, H.cs]
          have hy := hS2 _ (Own.rds (l := l.map (·.1)) (by decide) pc_len (by rw [hlm1]; exact H.at 3 rfl))
          have hld := ldS_of (l := (((l.map (·.1)).take l.length).drop (kOf i l))) (by rw [hl21]; exact hy)
          rw [hl21] at hld
          refine appQ0 H (k := l.length - kOf i l) rfl hld (by rw [fm_len pc_len, hl21]) (honeI _) rfl (by omega) (by omega) fun u M _ H => ?_
          rw [hXI u] at H
          refine Own.formK (H.at 0 rfl) fun au cu e => ?_
          subst e
          simp (disch := omega) only [go_sem, undef, H.cs]
          refine wrQ2 H fun M _ H => ?_
          simp (disch := omega) only [go_sem, undef]
          have H := dropQ1 H
          exact ⟨_, _, downQ1 (dropQ2 H)⟩
      · rintro E M ⟨au, cu, eE, H⟩
        subst eE
        simp (disch := omega) only [go_sem, undef, hs3, hs4, H.cs]
        refine both_cut (fun E M => ∃ aw cw, E = [] ∧ Hq m M (logR wb (.slice ai (l.map (·.1)).length ci) (.slice a (l.map (·.2)).length cc) cut l).wp [cellA wb (.cells (Value.slice au l'.length cu :: Value.slice aw l'.length cw :: dv cut).toArray T_ref15_Log (0, 0)), ownA T_api_Inst 2 (.slice au l'.length cu) l'.length ((l'.map (·.1)).flatMap pc), ownA T_api_Cell 21 (.slice aw l'.length cw) l'.length ((l'.map (·.2)).flatMap Cel.cs), cellA b2 (.cells c.cs.toArray T_api_Cell (0, 0)), cellA b1 (.cells (pc i).toArray T_api_Inst (0, 0))]) ?_ ?_
        rotate_left
        · simp (disch := omega) only [go_sem, undef, H.cs]
          refine both_intro ?_ ?_
          · simp (disch := omega) only [go_sem, undef, H.cs]
            refine newQ H fun b3 M _ H => ?_
            have H := H.toRow 21 0 0 (by simp) (by omega)
            simp (disch := omega) only [go_sem, undef, H.cs]
            refine both_intro ?_ ?_
            · simp (disch := omega) only [go_sem, undef, H.cs]
              have hy := hS3 _ (Own.rds (l := l.map (·.2)) (by decide) Cel.len (by rw [hlm]; exact H.at 3 rfl))
              have hld := ldS_of (l := (((l.map (·.2)).take (kOf i l)).drop 0)) (by rw [hl12]; exact hy)
              rw [hl12] at hld
              refine appQ0 H (k := kOf i l) rfl hld (by rw [fm_len Cel.len, hl12]) (honeC _) rfl (by omega) (by omega) fun u M _ H => ?_
              simp (disch := omega) only [go_sem, undef, H.cs]
              refine newQ H fun b4 M _ H => ?_
              simp (disch := omega) only [go_sem, undef, H.cs]
              refine appQ1 H (k := 1) rfl (ldS_cell (l := Cel.cs c) H.cs.1 (by rw [Cel.len]; decide)) (by rw [List.take_of_length_le (by rw [Cel.len]; decide), Cel.len]) (fun v hv => List.all_eq_true.1 (Cel.one c) v (List.mem_of_mem_take hv)) rfl (by omega) (by omega) fun u M _ H => ?_
              simp (disch := omega) only [go_sem, undef, H.cs]
              have hy := hS4 _ (Own.rds (l := l.map (·.2)) (by decide) Cel.len (by rw [hlm]; exact H.at 4 rfl))
              have hld := ldS_of (l := (((l.map (·.2)).take l.length).drop (kOf i l))) (by rw [hl22]; exact hy)
              rw [hl22] at hld
              refine appQ1 H (k := l.length - kOf i l) rfl hld (by rw [fm_len Cel.len, hl22]) (honeC _) rfl (by omega) (by omega) fun u M _ H => ?_
              rw [hXC u] at H
              refine Own.formK (H.at 1 rfl) fun au cu e => ?_
              subst e
              simp (disch := omega) only [go_sem, undef, H.cs]
              refine wrQ2 H fun M _ H => ?_
              simp (disch := omega) only [go_sem, undef]
              have H := H.tail
              rw [hlm, hlm1] at H
              exact ⟨_, _, downQ2 (dropQ3 H)⟩
            · simp (disch := omega) only [go_sem, undef, H.cs]
              refine newQ H fun b4 M _ H => ?_
              simp (disch := omega) only [go_sem, undef, H.cs]
              have hy := hS3 _ (Own.rds (l := l.map (·.2)) (by decide) Cel.len (by rw [hlm]; exact H.at 4 rfl))
              have hld := ldS_of (l := (((l.map (·.2)).take (kOf i l)).drop 0)) (by rw [hl12]; exact hy)
              rw [hl12] at hld
              refine appQ1 H (k := kOf i l) rfl hld (by rw [fm_len Cel.len, hl12]) (honeC _) rfl (by omega) (by omega) fun u M _ H => ?_
              simp (disch := omega) only [go_sem, undef, H.cs]
              refine appQ1 H (k := 1) rfl (ldS_cell (l := Cel.cs c) H.cs.1 (by rw [Cel.len]; decide)) (by rw [List.take_of_length_le (by rw [Cel.len]; decide), Cel.len]) (fun v hv => List.all_eq_true.1 (Cel.one c) v (List.mem_of_mem_take hv)) rfl (by omega) (by omega) fun u M _ H => ?_
              simp (disch := omega) only [go_sem, undef, H.cs]
              have hy := hS4 _ (Own.rds (l := l.map (·.2)) (by decide) Cel.len (by rw [hlm]; exact H.at 4 rfl))
              have hld := ldS_of (l := (((l.map (·.2)).take l.length).drop (kOf i l))) (by rw [hl22]; exact hy)
              rw [hl22] at hld
              refine appQ1 H (k := l.length - kOf i l) rfl hld (by rw [fm_len Cel.len, hl22]) (honeC _) rfl (by omega) (by omega) fun u M _ H => ?_
              rw [hXC u] at H
              refine Own.formK (H.at 1 rfl) fun au cu e => ?_
              subst e
              simp (disch := omega) only [go_sem, undef, H.cs]
              refine wrQ2 H fun M _ H => ?_
              simp (disch := omega) only [go_sem, undef]
              have H := H.tail
              rw [hlm, hlm1] at H
              exact ⟨_, _, downQ2 (dropQ3 H)⟩
          · simp (disch := omega) only [go_sem, undef, H.cs]
            refine newQ H fun b4 M _ H => ?_
            simp (disch := omega) only [go_sem, undef, H.cs]
            refine newQ H fun b3 M _ H => ?_
            have H := H.toRow 21 0 0 (by simp) (by omega)
            simp (disch := omega) only [go_sem, undef, H.cs]
            have hy := hS3 _ (Own.rds (l := l.map (·.2)) (by decide) Cel.len (by rw [hlm]; exact H.at 4 rfl))
            have hld := ldS_of (l := (((l.map (·.2)).take (kOf i l)).drop 0)) (by rw [hl12]; exact hy)
            rw [hl12] at hld
            refine appQ0 H (k := kOf i l) rfl hld (by rw [fm_len Cel.len, hl12]) (honeC _) rfl (by omega) (by omega) fun u M _ H => ?_
            simp (disch := omega) only [go_sem, undef, H.cs]
            refine appQ0 H (k := 1) rfl (ldS_cell (l := Cel.cs c) H.cs.1 (by rw [Cel.len]; decide)) (by rw [List.take_of_length_le (by rw [Cel.len]; decide), Cel.len]) (fun v hv => List.all_eq_true.1 (Cel.one c) v (List.mem_of_mem_take hv)) rfl (by omega) (by omega) fun u M _ H => ?_
            simp (disch := omega) only [go_sem, undef, H.cs]
            have hy := hS4 _ (Own.rds (l := l.map (·.2)) (by decide) Cel.len (by rw [hlm]; exact H.at 4 rfl))
            have hld := ldS_of (l := (((l.map (·.2)).take l.length).drop (kOf i l))) (by rw [hl22]; exact hy)
            rw [hl22] at hld
            refine appQ0 H (k := l.length - kOf i l) rfl hld (by rw [fm_len Cel.len, hl22]) (honeC _) rfl (by omega) (by omega) fun u M _ H => ?_
            rw [hXC u] at H
            refine Own.formK (H.at 0 rfl) fun au cu e => ?_
            subst e
            simp (disch := omega) only [go_sem, undef, H.cs]
            refine wrQ2 H fun M _ H => ?_
            simp (disch := omega) only [go_sem, undef]
            have H := dropQ1 H
            rw [hlm, hlm1] at H
            exact ⟨_, _, downQ2 (dropQ3 H)⟩
        · rintro E M ⟨aw, cw, eE, H⟩
          subst eE
          simp (disch := omega) only [go_sem, undef]
          exact logR_end (logR_close H) rfl
  · have hm : ¬ mayS cut l i c := fun hm => hpre ⟨hm.1, hm.2.1, hm.2.2.1⟩
    rw [decide_eq_false hm, if_neg hm]
    refine ref15_Log_Set_go (by simp [Try.f33]) ?_
    have H := Hq.one h
    simp (disch := omega) only [go_sem, undef]
    repeat' (first
      | ((with_reducible refine newQ H fun _ _ f H2 => ?_); clear f; clear H; have H := H2; clear H2; simp (disch := omega) only [go_sem, undef, H.cs, *])
      | ((with_reducible refine wrQ0 H fun _ f H2 => ?_); clear f; clear H; have H := H2; clear H2; simp (disch := omega) only [go_sem, undef, H.cs, *])
      | ((with_reducible refine wrQ1 H fun _ f H2 => ?_); clear f; clear H; have H := H2; clear H2; simp (disch := omega) only [go_sem, undef, H.cs, *])
      | ((with_reducible refine wrQ2 H fun _ f H2 => ?_); clear f; clear H; have H := H2; clear H2; simp (disch := omega) only [go_sem, undef, H.cs, *])
      | ((with_reducible refine wrQ3 H fun _ f H2 => ?_); clear f; clear H; have H := H2; clear H2; simp (disch := omega) only [go_sem, undef, H.cs, *])
      | ((with_reducible refine wrQ4 H fun _ f H2 => ?_); clear f; clear H; have H := H2; clear H2; simp (disch := omega) only [go_sem, undef, H.cs, *])
      | ((with_reducible refine wrQ5 H fun _ f H2 => ?_); clear f; clear H; have H := H2; clear H2; simp (disch := omega) only [go_sem, undef, H.cs, *])
      | ((with_reducible refine stwQ0 H ?hl ?h1 fun _ f H2 => ?_); (case hl => rfl); (case h1 => rfl); clear f; clear H; have H := H2; clear H2; simp (disch := omega) only [go_sem, undef, H.cs, *])
      | ((with_reducible refine stwQ1 H ?hl ?h1 fun _ f H2 => ?_); (case hl => rfl); (case h1 => rfl); clear f; clear H; have H := H2; clear H2; simp (disch := omega) only [go_sem, undef, H.cs, *])
      | ((with_reducible refine stwQ2 H ?hl ?h1 fun _ f H2 => ?_); (case hl => rfl); (case h1 => rfl); clear f; clear H; have H := H2; clear H2; simp (disch := omega) only [go_sem, undef, H.cs, *])
      | ((with_reducible refine stwQ3 H ?hl ?h1 fun _ f H2 => ?_); (case hl => rfl); (case h1 => rfl); clear f; clear H; have H := H2; clear H2; simp (disch := omega) only [go_sem, undef, H.cs, *])
      | ((with_reducible refine stwQ4 H ?hl ?h1 fun _ f H2 => ?_); (case hl => rfl); (case h1 => rfl); clear f; clear H; have H := H2; clear H2; simp (disch := omega) only [go_sem, undef, H.cs, *])
      | ((with_reducible refine stwQ5 H ?hl ?h1 fun _ f H2 => ?_); (case hl => rfl); (case h1 => rfl); clear f; clear H; have H := H2; clear H2; simp (disch := omega) only [go_sem, undef, H.cs, *])
      | ((with_reducible refine stQ0 H ?hl ?h1 fun _ f H2 => ?_); (case hl => exact Nat.le_of_ble_eq_true rfl); (case h1 => rfl); clear f; (simp only [go_sem] at H2); clear H; have H := H2; clear H2; simp (disch := omega) only [go_sem, undef, H.cs, *])
      | ((with_reducible refine stQ1 H ?hl ?h1 fun _ f H2 => ?_); (case hl => exact Nat.le_of_ble_eq_true rfl); (case h1 => rfl); clear f; (simp only [go_sem] at H2); clear H; have H := H2; clear H2; simp (disch := omega) only [go_sem, undef, H.cs, *])
      | ((with_reducible refine stQ2 H ?hl ?h1 fun _ f H2 => ?_); (case hl => exact Nat.le_of_ble_eq_true rfl); (case h1 => rfl); clear f; (simp only [go_sem] at H2); clear H; have H := H2; clear H2; simp (disch := omega) only [go_sem, undef, H.cs, *])
      | ((with_reducible refine stQ3 H ?hl ?h1 fun _ f H2 => ?_); (case hl => exact Nat.le_of_ble_eq_true rfl); (case h1 => rfl); clear f; (simp only [go_sem] at H2); clear H; have H := H2; clear H2; simp (disch := omega) only [go_sem, undef, H.cs, *])
      | ((with_reducible refine callQ H (ref1_RightInst_s _ _) fun _ f H2 => ?_); clear f; clear H; have H := H2; clear H2; simp (disch := omega) only [go_sem, undef, H.cs, *])
      | ((with_reducible refine tQ0 H (fun h => ref15_Gone_s h _) fun _ f H2 => ?_); clear f; clear H; have H := H2; clear H2; simp (disch := omega) only [go_sem, undef, H.cs, *])
      | ((with_reducible refine tQ1 H (fun h => ref15_Gone_s h _) fun _ f H2 => ?_); clear f; clear H; have H := H2; clear H2; simp (disch := omega) only [go_sem, undef, H.cs, *])
      | ((with_reducible refine tQ2 H (fun h => ref15_Gone_s h _) fun _ f H2 => ?_); clear f; clear H; have H := H2; clear H2; simp (disch := omega) only [go_sem, undef, H.cs, *])
      | ((with_reducible refine tQ3 H (fun h => ref15_Gone_s h _) fun _ f H2 => ?_); clear f; clear H; have H := H2; clear H2; simp (disch := omega) only [go_sem, undef, H.cs, *])
      | ((with_reducible refine tQ4 H (fun h => ref15_Gone_s h _) fun _ f H2 => ?_); clear f; clear H; have H := H2; clear H2; simp (disch := omega) only [go_sem, undef, H.cs, *])
      | ((with_reducible refine callQ H (ref15_RightCell_s _ _) fun _ f H2 => ?_); clear f; clear H; have H := H2; clear H2; simp (disch := omega) only [go_sem, undef, H.cs, *])
      | ((with_reducible refine gQ_split (fun hq => ?_) (fun hq => ?_)) <;> (try simp only [Bool.not_true, Bool.not_false] at hq) <;> simp (disch := omega) only [go_sem, undef, H.cs, *])
      | ((with_reducible refine condB_split (fun hq => ?_) (fun hq => ?_)) <;> simp (disch := omega) only [go_sem, undef, H.cs, *]))
    all_goals (simp only [decide_eq_true_eq, decide_eq_false_iff_not] at *)
    all_goals first
      | exact post_intro (logR_end (upQ2 H) rfl)
      | (exfalso; clear H h; grind)
end Go.Fw
