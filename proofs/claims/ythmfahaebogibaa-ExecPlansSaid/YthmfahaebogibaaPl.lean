import Derived.Test.YthmfahaebogibaaFxA
import Derived.Test.YthmfahaebogibaaGr
set_option linter.unusedVariables false
set_option linter.unusedSimpArgs false
/-! What may be done, and in which order: in plain words. -/
set_option linter.unusedSimpArgs false
set_option linter.unusedVariables false
namespace Go.Fw
open Go
abbrev I2 := Int × Int
/-! sorted rows -/
section
variable {α : Type} (lt : α → α → Prop) [DecidableRel lt]
def insX (x : α) : List α → List α
  | [] => [x]
  | y :: r => if lt x y then x :: y :: r else y :: insX x r
def sortX : List α → List α
  | [] => []
  | x :: r => insX lt x (sortX r)
theorem insX_perm (x : α) : ∀ l, (insX lt x l).Perm (x :: l)
  | [] => List.Perm.refl _
  | y :: r => by
    simp only [insX]
    split
    · exact List.Perm.refl _
    · exact ((insX_perm x r).cons y).trans (List.Perm.swap x y r)
theorem sortX_perm : ∀ l, (sortX lt l).Perm l
  | [] => List.Perm.refl _
  | x :: r => (insX_perm lt x _).trans ((sortX_perm r).cons x)
variable {lt}
theorem insX_sorted (tr : ∀ a b c, lt a b → lt b c → lt a c) (x : α) : ∀ l, l.Pairwise lt → (∀ y ∈ l, lt x y ∨ lt y x) → (insX lt x l).Pairwise lt
  | [], _, _ => by simp [insX]
  | y :: r, h, ht => by
    obtain ⟨h1, h2⟩ := List.pairwise_cons.1 h
    simp only [insX]
    split
    · rename_i hx
      exact List.pairwise_cons.2 ⟨fun z hz => by
        rcases List.mem_cons.1 hz with rfl | hz
        · exact hx
        · exact tr _ _ _ hx (h1 z hz), h⟩
    · rename_i hx
      refine List.pairwise_cons.2 ⟨fun z hz => ?_, insX_sorted tr x r h2 fun z hz => ht z (List.mem_cons_of_mem _ hz)⟩
      rcases List.mem_cons.1 ((insX_perm lt x r).mem_iff.1 hz) with rfl | hz
      · exact (ht y (List.mem_cons_self ..)).resolve_left hx
      · exact h1 z hz
theorem sortX_sorted (tr : ∀ a b c, lt a b → lt b c → lt a c) (tot : ∀ a b, a ≠ b → lt a b ∨ lt b a) : ∀ l : List α, l.Nodup → (sortX lt l).Pairwise lt
  | [], _ => .nil
  | x :: r, h => by
    obtain ⟨h1, h2⟩ := List.nodup_cons.1 h
    exact insX_sorted tr x _ (sortX_sorted tr tot r h2) fun y hy => tot x y (by rintro rfl; exact h1 ((sortX_perm lt r).mem_iff.1 hy))
theorem sorted_one {α : Type} {lt : α → α → Prop} (irr : ∀ a, ¬ lt a a) (tr : ∀ a b c, lt a b → lt b c → lt a c) : ∀ {a b : List α}, a.Perm b → a.Pairwise lt → b.Pairwise lt → a = b
  | [], b, h, _, _ => (List.nil_perm.1 h).symm
  | x :: r, b, h, ha, hb => by
    cases b with
    | nil => exact absurd h.length_eq (by simp)
    | cons y s =>
      obtain ⟨ha1, ha2⟩ := List.pairwise_cons.1 ha
      obtain ⟨hb1, hb2⟩ := List.pairwise_cons.1 hb
      have hxy : x = y := by
        rcases List.mem_cons.1 (h.mem_iff.1 (List.mem_cons_self ..)) with e | hx
        · exact e
        · rcases List.mem_cons.1 (h.mem_iff.2 (List.mem_cons_self ..)) with e | hy
          · exact e.symm
          · exact absurd (tr _ _ _ (ha1 y hy) (hb1 x hx)) (irr x)
      subst hxy
      rw [sorted_one irr tr (List.perm_cons x |>.1 h) ha2 hb2]
end
theorem lt2_irr (a : I2) : ¬ lt2 a a := by unfold lt2; omega
theorem lt2_tr (a b c : I2) : lt2 a b → lt2 b c → lt2 a c := by unfold lt2; omega
theorem lt2_tot (a b : I2) (h : a ≠ b) : lt2 a b ∨ lt2 b a := by
  unfold lt2
  have : a.1 ≠ b.1 ∨ a.2 ≠ b.2 := by
    by_cases h1 : a.1 = b.1
    · exact .inr fun h2 => h (Prod.ext h1 h2)
    · exact .inl h1
  omega
abbrev sortI (l : List I2) : List I2 := sortX lt2 l
/-- nodes by a number, then by themselves -/
abbrev ltK (key : Nat → Int) (a b : Nat) : Prop := key a < key b ∨ key a = key b ∧ a < b
abbrev sortK (key : Nat → Int) (l : List Nat) : List Nat := sortX (ltK key) l
theorem ltK_irr (key : Nat → Int) (a : Nat) : ¬ ltK key a a := by unfold ltK; omega
theorem ltK_tr (key : Nat → Int) (a b c : Nat) : ltK key a b → ltK key b c → ltK key a c := by unfold ltK; omega
theorem ltK_tot (key : Nat → Int) (a b : Nat) (h : a ≠ b) : ltK key a b ∨ ltK key b a := by unfold ltK; omega

/-! what an instance hangs on -/
def upto (i : I2) (a : Att) (r : Nat) : Int := if (r : Int) = i.1 then max (a.deps.g r) (i.2 - 1) else a.deps.g r
def slots (a b : Int) : List Int := (List.range (b - a).toNat).map fun k => a + 1 + (k : Nat)
theorem mem_slots {a b s : Int} : s ∈ slots a b ↔ a < s ∧ s ≤ b := by
  simp only [slots, List.mem_map, List.mem_range]
  constructor
  · rintro ⟨k, hk, rfl⟩; omega
  · rintro ⟨h1, h2⟩; exact ⟨(s - a - 1).toNat, by omega, by omega⟩
def hangL (done : Dp) (i : I2) (a : Att) : List I2 := (List.range 7).flatMap fun r => (slots (done.g r) (upto i a r)).map fun s => ((r : Int), s)
theorem mem_hangL {done : Dp} {i : I2} {a : Att} {k : I2} : k ∈ hangL done i a ↔ ∃ r, r < 7 ∧ k.1 = (r : Nat) ∧ done.g r < k.2 ∧ k.2 ≤ upto i a r := by
  simp only [hangL, List.mem_flatMap, List.mem_range, List.mem_map, mem_slots]
  constructor
  · rintro ⟨r, hr, s, ⟨h1, h2⟩, rfl⟩; exact ⟨r, hr, rfl, h1, h2⟩
  · rintro ⟨r, hr, e, h1, h2⟩; exact ⟨r, hr, k.2, ⟨h1, h2⟩, Prod.ext e.symm rfl⟩

/-! a root and all that it hangs on -/
def visit (C : LogL) : List I2 → List I2 → List I2 ⊕ I2
  | row, [] => .inl row
  | row, k :: ks => if lkC k C = none then .inr k else visit C (if k ∈ row then row else row ++ [k]) ks
def bfs (C : LogL) (done : Dp) : Nat → Nat → List I2 → List I2 ⊕ I2
  | 0, _, row => .inl row
  | f + 1, at_, row => match row[at_]? with
    | none => .inl row
    | some i => match visit C row (hangL done i ((lkC i C).getD Cel.zero).att) with
      | .inr k => .inr k
      | .inl row' => bfs C done f (at_ + 1) row'
def hangs (C : LogL) (done : Dp) (root : I2) : List I2 ⊕ I2 := bfs C done (C.length + 1) 0 [root]
theorem visit_inr {C : LogL} {k : I2} : ∀ {ks row : List I2}, visit C row ks = .inr k → k ∈ ks ∧ lkC k C = none
  | [], row, h => by cases h
  | x :: ks, row, h => by
    simp only [visit] at h
    split at h
    · rename_i hx; cases h; exact ⟨List.mem_cons_self .., hx⟩
    · obtain ⟨h1, h2⟩ := visit_inr h; exact ⟨List.mem_cons_of_mem _ h1, h2⟩
theorem visit_inl {C : LogL} : ∀ {ks row row' : List I2}, visit C row ks = .inl row' → row.Nodup → (∀ i ∈ row, lkC i C ≠ none) →
    row'.Nodup ∧ (∀ i ∈ row', lkC i C ≠ none) ∧ (∃ t, row' = row ++ t ∧ ∀ i ∈ t, i ∈ ks) ∧ ∀ i ∈ ks, i ∈ row'
  | [], row, row', h, hn, hc => by cases h; exact ⟨hn, hc, ⟨[], by simp, by simp⟩, by simp⟩
  | x :: ks, row, row', h, hn, hc => by
    simp only [visit] at h
    split at h
    · cases h
    · rename_i hx
      by_cases hm : x ∈ row
      · rw [if_pos hm] at h
        obtain ⟨h1, h2, ⟨t, rfl, h3⟩, h4⟩ := visit_inl h hn hc
        refine ⟨h1, h2, ⟨t, rfl, fun i hi => List.mem_cons_of_mem _ (h3 i hi)⟩, fun i hi => ?_⟩
        rcases List.mem_cons.1 hi with rfl | hi
        · exact List.mem_append_left _ hm
        · exact h4 i hi
      · rw [if_neg hm] at h
        obtain ⟨h1, h2, ⟨t, rfl, h3⟩, h4⟩ := visit_inl h (List.nodup_append.2 ⟨hn, by simp, by simp only [List.mem_singleton]; rintro a ha b rfl rfl; exact hm ha⟩) (fun i hi => by
          rcases List.mem_append.1 hi with hi | hi
          · exact hc i hi
          · simp only [List.mem_singleton] at hi; subst hi; exact hx)
        refine ⟨h1, h2, ⟨x :: t, by simp, fun i hi => ?_⟩, fun i hi => ?_⟩
        · rcases List.mem_cons.1 hi with rfl | hi
          · exact List.mem_cons_self ..
          · exact List.mem_cons_of_mem _ (h3 i hi)
        · rcases List.mem_cons.1 hi with rfl | hi
          · simp
          · exact h4 i hi
theorem nodup_le {l k : List I2} (h : l.Nodup) (hs : ∀ x ∈ l, x ∈ k) : l.length ≤ k.length := by
  induction l generalizing k with
  | nil => simp
  | cons a r ih =>
    obtain ⟨h1, h2⟩ := List.nodup_cons.1 h
    have ha := hs a (List.mem_cons_self ..)
    have := ih (k := k.erase a) h2 fun x hx => (List.mem_erase_of_ne (by rintro rfl; exact h1 hx)).2 (hs x (List.mem_cons_of_mem _ hx))
    rw [List.length_erase_of_mem ha] at this
    have := List.length_pos_of_mem ha
    simp; omega
theorem row_le {C : LogL} {row : List I2} (h : row.Nodup) (hc : ∀ i ∈ row, lkC i C ≠ none) : row.length ≤ C.length := by
  have := nodup_le (k := keysC C) h fun x hx => by
    apply Classical.byContradiction
    intro hk; exact hc x hx (lkC_none.2 hk)
  simpa [keysC] using this
/-- what is closed under hanging -/
def Clo (C : LogL) (done : Dp) (D : I2 → Prop) : Prop := ∀ i, D i → lkC i C ≠ none → ∀ k ∈ hangL done i ((lkC i C).getD Cel.zero).att, D k
theorem bfs_inr {C : LogL} {done : Dp} {D : I2 → Prop} (hD : Clo C done D) {k : I2} : ∀ {f at_ : Nat} {row : List I2}, bfs C done f at_ row = .inr k → row.Nodup → (∀ i ∈ row, lkC i C ≠ none) → (∀ i ∈ row, D i) → D k ∧ lkC k C = none
  | 0, at_, row, h, _, _, _ => by cases h
  | f + 1, at_, row, h, hn, hc, hd => by
    simp only [bfs] at h
    split at h
    · cases h
    · rename_i i hi
      have him := List.mem_of_getElem? hi
      split at h
      · rename_i k' hk
        cases h
        obtain ⟨h1, h2⟩ := visit_inr hk
        exact ⟨hD i (hd i him) (hc i him) _ h1, h2⟩
      · rename_i row' hr
        obtain ⟨h1, h2, ⟨t, rfl, h3⟩, h4⟩ := visit_inl hr hn hc
        exact bfs_inr hD h h1 h2 fun j hj => by
          rcases List.mem_append.1 hj with hj | hj
          · exact hd j hj
          · exact hD i (hd i him) (hc i him) _ (h3 j hj)
theorem bfs_inl {C : LogL} {done : Dp} : ∀ {f at_ : Nat} {row row' : List I2}, bfs C done f at_ row = .inl row' → C.length < f + at_ → at_ ≤ row.length → row.Nodup → (∀ i ∈ row, lkC i C ≠ none) →
    (∀ j i, j < at_ → row[j]? = some i → ∀ k ∈ hangL done i ((lkC i C).getD Cel.zero).att, k ∈ row) →
    row'.Nodup ∧ (∀ i ∈ row', lkC i C ≠ none) ∧ (∃ t, row' = row ++ t) ∧ ∀ i ∈ row', ∀ k ∈ hangL done i ((lkC i C).getD Cel.zero).att, k ∈ row'
  | 0, at_, row, row', h, hf, ha, hn, hc, _ => by
    have := row_le hn hc
    omega
  | f + 1, at_, row, row', h, hf, ha, hn, hc, hp => by
    simp only [bfs] at h
    split at h
    · rename_i hi
      cases h
      refine ⟨hn, hc, ⟨[], by simp⟩, fun i hi' k hk => ?_⟩
      obtain ⟨j, hj, e⟩ := List.getElem_of_mem hi'
      have hlen := List.getElem?_eq_none_iff.1 hi
      exact hp j i (by omega) (by rw [List.getElem?_eq_getElem hj, e]) k hk
    · rename_i i hi
      have him := List.mem_of_getElem? hi
      have hil := (List.getElem?_eq_some_iff.1 hi).1
      split at h
      · cases h
      · rename_i row1 hr
        obtain ⟨h1, h2, ⟨t, rfl, h3⟩, h4⟩ := visit_inl hr hn hc
        obtain ⟨g1, g2, ⟨t', rfl⟩, g4⟩ := bfs_inl h (by omega) (by rw [List.length_append]; omega) h1 h2 fun j x hj hx k hk => by
          rcases Nat.lt_or_eq_of_le (Nat.le_of_lt_succ hj) with hj | rfl
          · rw [List.getElem?_append_left (by omega)] at hx
            exact List.mem_append_left _ (hp j x hj hx k hk)
          · rw [List.getElem?_append_left hil, hi] at hx
            cases hx; exact h4 k hk
        exact ⟨g1, g2, ⟨t ++ t', by simp⟩, g4⟩
/-- what hangs tells -/
theorem hangs_inl {C : LogL} {done : Dp} {root : I2} {row : List I2} (h : hangs C done root = .inl row) (hr : lkC root C ≠ none) :
    row.Nodup ∧ (∀ i ∈ row, lkC i C ≠ none) ∧ root ∈ row ∧ ∀ i ∈ row, ∀ k ∈ hangL done i ((lkC i C).getD Cel.zero).att, k ∈ row := by
  obtain ⟨h1, h2, ⟨t, rfl⟩, h4⟩ := bfs_inl h (by omega) (by simp) (by simp) (by simpa using hr) (by omega)
  exact ⟨h1, h2, by simp, h4⟩
theorem hangs_inr {C : LogL} {done : Dp} {root k : I2} (h : hangs C done root = .inr k) (hr : lkC root C ≠ none) {D : I2 → Prop} (hD : Clo C done D) (h0 : D root) : D k ∧ lkC k C = none :=
  bfs_inr hD h (by simp) (by simpa using hr) (by simpa using h0)

/-! the graph of a row, and its order -/
abbrev edgeP (i : I2) (d : Dp) (k : I2) : Prop := (rightI k ∧ k.2 ≤ d.g k.1.toNat) ∨ (k.1 = i.1 ∧ k.2 < i.2)
abbrev attC (C : LogL) (i : I2) : Att := ((lkC i C).getD Cel.zero).att
abbrev nthI (S : List I2) (v : Nat) : I2 := S.getD v (0, 0)
def edgesL (C : LogL) (S : List I2) (a : Nat) : List Int := ((List.range S.length).filter fun b => decide (a ≠ b ∧ edgeP (nthI S a) (attC C (nthI S a)).deps (nthI S b))).map fun (b : Nat) => (b : Int)
open Classical in
noncomputable def partsOf (n : Nat) (E : Nat → List Int) : List (List Nat) := if h : ∃ l, Out n E (fun _ => False) l then Classical.choose h else []
theorem partsOf_eq {n : Nat} {E : Nat → List Int} {l : List (List Nat)} (h : Out n E (fun _ => False) l) : partsOf n E = l := by
  unfold partsOf
  rw [dif_pos ⟨l, h⟩]
  exact (Classical.choose_spec ⟨l, h⟩ : Out n E _ _).det h
noncomputable def orderL (C : LogL) (row : List I2) : List I2 :=
  (partsOf (sortI row).length (edgesL C (sortI row))).flatMap fun p => (sortK (fun v => (attC C (nthI (sortI row) v)).seq) p).map (nthI (sortI row))

/-! rounds -/
def addI (k : I2) (l : List I2) : List I2 := if k ∈ l then l else l ++ [k]
structure PS where
  done : Dp
  out : List I2
  mis : List I2
  did : Bool
def beyond (C : LogL) (root : I2) : Prop := ∃ i ∈ keysC C, i.1 = root.1 ∧ root.2 < i.2
instance (C : LogL) (root : I2) : Decidable (beyond C root) := by unfold beyond; exact inferInstance
def upD (d : Dp) (l : List I2) : Dp := l.foldl (fun d i => Dp.up d i.1.toNat (max (d.g i.1.toNat) i.2)) d
noncomputable def stepP (C : LogL) (s : PS) (r : Nat) : PS :=
  if lkC ((r : Int), s.done.g r + 1) C = none then
    if beyond C ((r : Int), s.done.g r + 1) then { s with mis := addI ((r : Int), s.done.g r + 1) s.mis } else s
  else match hangs C s.done ((r : Int), s.done.g r + 1) with
    | .inr k => { s with mis := addI k s.mis }
    | .inl row => { s with done := upD s.done (orderL C row), out := s.out ++ orderL C row, did := true }
noncomputable def roundP (C : LogL) (done : Dp) (out : List I2) : PS := (List.range 7).foldl (stepP C) ⟨done, out, [], false⟩
noncomputable def planP (C : LogL) : Nat → Dp → List I2 → List I2 × List I2
  | 0, done, out => (out, [])
  | f + 1, done, out => if (roundP C done out).did then planP C f (roundP C done out).done (roundP C done out).out else ((roundP C done out).out, sortI (roundP C done out).mis)
noncomputable def planL (C : LogL) (done : Dp) : List I2 × List I2 := planP C (C.length + 1) done []
end Go.Fw

/-! What the plan's answer says. -/
set_option linter.unusedSimpArgs false
set_option linter.unusedVariables false
namespace Go.Fw
open Go
theorem free_least {n : Nat} {E : Nat → List Int} {D : Nat → Prop} (h : ∃ i, Free n E D i) : ∃ i, Free n E D i ∧ ∀ k, k < i → ¬ Free n E D k := by
  obtain ⟨i, hi⟩ := h
  induction i using Nat.strongRecOn with
  | _ i ih =>
    by_cases hk : ∃ k, k < i ∧ Free n E D k
    · obtain ⟨k, h1, h2⟩ := hk; exact ih k h1 h2
    · exact ⟨i, hi, fun k h1 h2 => hk ⟨k, h1, h2⟩⟩
open Classical in
theorem out_ex (n : Nat) (E : Nat → List Int) : ∀ (c : Nat) (D : Nat → Prop), lft n D ≤ c → ∃ l, Out n E D l
  | c, D, hc => by
    by_cases h : ∃ i, Free n E D i
    · obtain ⟨i, hi, hl⟩ := free_least h
      have hlt := lft_lt (D := D) (D' := fun x => D x ∨ (x < n ∧ Scc n E i x)) (i := i) hi.1 (fun x hx => .inl hx) hi.2.1 (.inr ⟨hi.1, .refl _, .refl _⟩)
      cases c with
      | zero => omega
      | succ c =>
        obtain ⟨r, hr⟩ := out_ex n E c (fun x => D x ∨ (x < n ∧ Scc n E i x)) (by omega)
        exact ⟨_, Out.cons (f := fun j => decide (Scc n E i j)) hi hl (fun j _ => decide_eq_true_iff) hr⟩
    · exact ⟨[], .nil fun i hi => h ⟨i, hi⟩⟩
theorem partsOf_out (n : Nat) (E : Nat → List Int) : Out n E (fun _ => False) (partsOf n E) := by
  obtain ⟨l, h⟩ := out_ex n E _ (fun _ => False) (Nat.le_refl _)
  rw [partsOf_eq h]; exact h
theorem Rch.lt {n : Nat} {E : Nat → List Int} {u v : Nat} (h : Rch n E u v) (hu : u < n) : v < n := closed_rch (T := fun y => y < n) (fun _ _ _ ha => ha.2.1) h hu
/-- parts, whom one comes to first -/
theorem Ans.down {n : Nat} {E : Nat → List Int} {l : List (List Nat)} (a : Ans n E (fun _ => False) l) {u v : Nat} (h : Rch n E u v) : ∀ p (hp : p < l.length), u ∈ l[p] → ∃ q, ∃ hq : q < l.length, q ≤ p ∧ v ∈ l[q] := by
  induction h with
  | refl u => exact fun p hp hu => ⟨p, hp, Nat.le_refl _, hu⟩
  | step h1 _ ih =>
    intro p hp hu
    rcases a.up p hp _ hu _ h1 with h | ⟨q, hq, hqp, hv⟩
    · exact h.elim
    · obtain ⟨q', hq', hle, hv'⟩ := ih q hq hv
      exact ⟨q', hq', by omega, hv'⟩
theorem Ans.part {n : Nat} {E : Nat → List Int} {l : List (List Nat)} (a : Ans n E (fun _ => False) l) {p q : Nat} (hp : p < l.length) (hq : q < l.length) {x : Nat} (h1 : x ∈ l[p]) (h2 : x ∈ l[q]) : p = q := by
  rcases Nat.lt_trichotomy p q with h | h | h
  · exact absurd h2 (a.dis p q hp hq h x h1)
  · exact h
  · exact absurd h1 (a.dis q p hq hp h x h2)
theorem Ans.ltn {n : Nat} {E : Nat → List Int} {D : Nat → Prop} {l : List (List Nat)} (a : Ans n E D l) {p : Nat} (hp : p < l.length) {x : Nat} (h : x ∈ l[p]) : x < n := by
  obtain ⟨f, hf⟩ := a.isF p hp
  rw [hf] at h
  simpa using (List.mem_filter.1 h).1
theorem Ans.nd {n : Nat} {E : Nat → List Int} {D : Nat → Prop} {l : List (List Nat)} (a : Ans n E D l) {p : Nat} (hp : p < l.length) : (l[p]).Nodup := by
  obtain ⟨f, hf⟩ := a.isF p hp
  rw [hf]; exact List.nodup_range.filter _
theorem pairwise_flat {α β : Type} {R : β → β → Prop} (g : α → List β) : ∀ l : List α, (∀ a ∈ l, (g a).Pairwise R) → l.Pairwise (fun a b => ∀ x ∈ g a, ∀ y ∈ g b, R x y) → (l.flatMap g).Pairwise R
  | [], _, _ => by simp
  | a :: r, h1, h2 => by
    obtain ⟨h3, h4⟩ := List.pairwise_cons.1 h2
    rw [List.flatMap_cons, List.pairwise_append]
    refine ⟨h1 a (List.mem_cons_self ..), pairwise_flat g r (fun b hb => h1 b (List.mem_cons_of_mem _ hb)) h4, fun x hx y hy => ?_⟩
    obtain ⟨b, hb, hy⟩ := List.mem_flatMap.1 hy
    exact h3 b hb x hx y hy
theorem pairwise_ix {α : Type} {R : α → α → Prop} {l : List α} (h : ∀ i j (hi : i < l.length) (hj : j < l.length), i < j → R l[i] l[j]) : l.Pairwise R := by
  rw [List.pairwise_iff_getElem]
  exact fun i j hi hj hij => h i j hi hj hij
/-- nodes of all parts: each once -/
theorem Ans.nodup {n : Nat} {E : Nat → List Int} {l : List (List Nat)} (a : Ans n E (fun _ => False) l) (key : Nat → Int) : (l.flatMap (sortK key)).Nodup := by
  refine pairwise_flat _ _ (fun p hp => ?_) (pairwise_ix fun i j hi hj hij x hx y hy e => ?_)
  · obtain ⟨i, hi, rfl⟩ := List.getElem_of_mem hp
    exact (sortX_perm _ _).nodup_iff.2 (a.nd hi)
  · subst e
    exact a.dis i j hi hj hij x ((sortX_perm _ _).mem_iff.1 hx) ((sortX_perm _ _).mem_iff.1 hy)
theorem Ans.mem {n : Nat} {E : Nat → List Int} {l : List (List Nat)} (a : Ans n E (fun _ => False) l) (key : Nat → Int) (x : Nat) : x ∈ l.flatMap (sortK key) ↔ x < n := by
  simp only [List.mem_flatMap]
  constructor
  · rintro ⟨p, hp, hx⟩
    obtain ⟨i, hi, rfl⟩ := List.getElem_of_mem hp
    exact a.ltn hi ((sortX_perm _ _).mem_iff.1 hx)
  · intro hx
    rcases a.all x hx with h | ⟨p, hp, h⟩
    · exact h.elim
    · exact ⟨l[p], List.getElem_mem _, (sortX_perm _ _).mem_iff.2 h⟩
theorem perm_range {l : List Nat} {n : Nat} (h1 : l.Nodup) (h2 : ∀ x, x ∈ l ↔ x < n) : l.Perm (List.range n) :=
  (List.perm_ext_iff_of_nodup h1 List.nodup_range).2 fun x => by rw [h2]; simp
theorem map_nth {S : List I2} : (List.range S.length).map (nthI S) = S := by
  apply List.ext_getElem
  · simp
  · intro i h1 h2
    simp only [List.getElem_map, List.getElem_range, nthI]
    rw [List.getD_eq_getElem?_getD, List.getElem?_eq_getElem h2]; rfl
theorem flat_map {α β γ : Type} (f : β → γ) (g : α → List β) : ∀ l : List α, (l.flatMap fun a => (g a).map f) = (l.flatMap g).map f
  | [] => rfl
  | a :: r => by simp [flat_map f g r]
theorem orderL_eq (C : LogL) (row : List I2) : orderL C row = ((partsOf (sortI row).length (edgesL C (sortI row))).flatMap (sortK fun v => (attC C (nthI (sortI row) v)).seq)).map (nthI (sortI row)) := flat_map _ _ _
theorem orderL_perm (C : LogL) (row : List I2) : (orderL C row).Perm row := by
  have a := (partsOf_out (sortI row).length (edgesL C (sortI row))).ans0
  rw [orderL_eq]
  refine ((perm_range (a.nodup _) (a.mem _)).map _).trans ?_
  rw [map_nth]
  exact sortX_perm _ _

/-! one instance comes to another -/
abbrev V2 (i : I2) : Prop := 0 ≤ i.1 ∧ i.1 < 7 ∧ 1 ≤ i.2
abbrev eA (A : I2 → Att) (x y : I2) : Prop := V2 y ∧ x ≠ y ∧ edgeP x (A x).deps y
inductive RA (A : I2 → Att) : I2 → I2 → Prop
  | refl (x : I2) : RA A x x
  | step {x y z : I2} : eA A x y → RA A y z → RA A x z
theorem RA.closed {A : I2 → Att} {D : I2 → Prop} (hD : ∀ x y, D x → eA A x y → D y) {x y : I2} (h : RA A x y) : D x → D y := by
  induction h with
  | refl x => exact id
  | step h1 _ ih => exact fun hx => ih (hD _ _ hx h1)
/-- the first of two ought not to come first -/
def Wr (A : I2 → Att) (i j : I2) : Prop := RA A i j ∧ (¬ RA A j i ∨ ((A j).seq < (A i).seq ∨ (A j).seq = (A i).seq ∧ lt2 j i))
theorem Wr.one {A : I2 → Att} {i j : I2} (hij : i ≠ j) (h : RA A i j ∨ RA A j i) : Wr A i j ∨ Wr A j i := by
  unfold Wr
  by_cases h1 : RA A i j <;> by_cases h2 : RA A j i
  · rcases Int.lt_trichotomy (A i).seq (A j).seq with h | h | h
    · exact .inr ⟨h2, .inr (.inl h)⟩
    · rcases lt2_tot i j hij with g | g
      · exact .inr ⟨h2, .inr (.inr ⟨h, g⟩)⟩
      · exact .inl ⟨h1, .inr (.inr ⟨h.symm, g⟩)⟩
    · exact .inl ⟨h1, .inr (.inl h)⟩
  · exact .inl ⟨h1, .inl h2⟩
  · exact .inr ⟨h2, .inl h1⟩
  · exact absurd h (by simp [h1, h2])
/-- a row that is closed under hanging, apart from what is done -/
structure Row (A : I2 → Att) (done : Dp) (row : List I2) : Prop where
  nd : row.Nodup
  v : ∀ i ∈ row, V2 i
  new : ∀ i ∈ row, done.g i.1.toNat < i.2
  cl : ∀ i ∈ row, ∀ k ∈ hangL done i (A i), k ∈ row
/-- what is done is closed -/
def ClD (A : I2 → Att) (done : Dp) : Prop := ∀ i, V2 i → i.2 ≤ done.g i.1.toNat → ∀ r, r < 7 → upto i (A i) r ≤ done.g r
theorem edge_upto {A : I2 → Att} {x y : I2} (h : eA A x y) : y.2 ≤ upto x (A x) y.1.toNat := by
  obtain ⟨⟨h1, h2, h3⟩, hn, h⟩ := h
  unfold upto
  have e : ((y.1.toNat : Nat) : Int) = y.1 := by omega
  rw [e]
  rcases h with ⟨_, h⟩ | ⟨ha, hb⟩
  · split <;> omega
  · rw [if_pos ha]; omega
theorem Row.edge {A : I2 → Att} {done : Dp} {row : List I2} (R : Row A done row) {x y : I2} (hx : x ∈ row) (h : eA A x y) : y ∈ row ∨ y.2 ≤ done.g y.1.toNat := by
  by_cases hd : y.2 ≤ done.g y.1.toNat
  · exact .inr hd
  · refine .inl (R.cl x hx y (mem_hangL.2 ⟨y.1.toNat, ?_, ?_, by omega, edge_upto h⟩))
    · have := h.1; omega
    · have := h.1; omega
theorem ClD.edge {A : I2 → Att} {done : Dp} (c : ClD A done) {x y : I2} (hv : V2 x) (hx : x.2 ≤ done.g x.1.toNat) (h : eA A x y) : y.2 ≤ done.g y.1.toNat :=
  Int.le_trans (edge_upto h) (c x hv hx _ (by have := h.1; omega))
theorem idx_of {S : List I2} {x : I2} (h : x ∈ S) : ∃ i, i < S.length ∧ nthI S i = x := by
  obtain ⟨i, hi, e⟩ := List.getElem_of_mem h
  exact ⟨i, hi, by rw [nthI, List.getD_eq_getElem?_getD, List.getElem?_eq_getElem hi]; exact e⟩
theorem nth_mem {S : List I2} {i : Nat} (h : i < S.length) : nthI S i ∈ S := by
  rw [nthI, List.getD_eq_getElem?_getD, List.getElem?_eq_getElem h]; exact List.getElem_mem h
theorem nth_inj {S : List I2} (hn : S.Nodup) {i j : Nat} (hi : i < S.length) (hj : j < S.length) (h : nthI S i = nthI S j) : i = j := by
  rw [nthI, nthI, List.getD_eq_getElem?_getD, List.getD_eq_getElem?_getD, List.getElem?_eq_getElem hi, List.getElem?_eq_getElem hj] at h
  exact (List.getElem_inj hn).1 h
section
variable {C : LogL} {A : I2 → Att} {done : Dp} {row : List I2}
theorem rch_of (R : Row A done row) (c : ClD A done) (hA : ∀ i ∈ row, attC C i = A i) {x y : I2} (h : RA A x y) (hx : x ∈ row) (hy : y ∈ row) :
    ∀ u v, u < (sortI row).length → v < (sortI row).length → nthI (sortI row) u = x → nthI (sortI row) v = y → Rch (sortI row).length (edgesL C (sortI row)) u v := by
  have hn : (sortI row).Nodup := (sortX_perm _ _).nodup_iff.2 R.nd
  have hm : ∀ x, x ∈ sortI row ↔ x ∈ row := fun x => (sortX_perm lt2 row).mem_iff
  have hdone : ∀ {z}, RA A z y → V2 z → z.2 ≤ done.g z.1.toNat → False := fun hz hv hd => by
    have := hz.closed (D := fun z => V2 z ∧ z.2 ≤ done.g z.1.toNat) (fun a b ⟨h1, h2⟩ he => ⟨he.1, c.edge h1 h2 he⟩) ⟨hv, hd⟩
    have := R.new y hy; omega
  induction h with
  | refl x =>
    intro u v hu hv e1 e2
    rw [nth_inj hn hu hv (e1.trans e2.symm)]; exact .refl _
  | @step x z y h1 h2 ih =>
    intro u v hu hv e1 e2
    rcases R.edge hx h1 with hz | hz
    · obtain ⟨w, hw, ew⟩ := idx_of ((hm z).2 hz)
      refine .step ⟨hu, hw, ?_⟩ (ih hz hy hdone w v hw hv ew e2)
      simp only [edgesL, List.mem_map, List.mem_filter, List.mem_range]
      refine ⟨w, ⟨hw, decide_eq_true ⟨?_, ?_⟩⟩, rfl⟩
      · rintro rfl; exact h1.2.1 (e1.symm.trans ew)
      · rw [e1, ew, hA x hx]; exact h1.2.2
    · exact (hdone h2 h1.1 hz).elim
theorem of_rch (R : Row A done row) (hA : ∀ i ∈ row, attC C i = A i) {u v : Nat} (h : Rch (sortI row).length (edgesL C (sortI row)) u v) : RA A (nthI (sortI row) u) (nthI (sortI row) v) := by
  have hm : ∀ x, x ∈ sortI row ↔ x ∈ row := fun x => (sortX_perm lt2 row).mem_iff
  induction h with
  | refl u => exact .refl _
  | step h1 _ ih =>
    obtain ⟨hu, hv, he⟩ := h1
    simp only [edgesL, List.mem_map, List.mem_filter, List.mem_range] at he
    obtain ⟨b, ⟨_, hb⟩, e⟩ := he
    have : b = _ := Int.ofNat.inj e
    subst this
    obtain ⟨h1, h2⟩ := of_decide_eq_true hb
    refine .step ⟨R.v _ ((hm _).1 (nth_mem hv)), fun e => h1 (nth_inj ((sortX_perm _ _).nodup_iff.2 R.nd) hu hv e), ?_⟩ ih
    rw [← hA _ ((hm _).1 (nth_mem hu))]; exact h2
theorem order_ok (R : Row A done row) (c : ClD A done) (hA : ∀ i ∈ row, attC C i = A i) : (orderL C row).Pairwise fun i j => ¬ Wr A i j := by
  have a := (partsOf_out (sortI row).length (edgesL C (sortI row))).ans0
  have hm : ∀ x, x ∈ sortI row ↔ x ∈ row := fun x => (sortX_perm lt2 row).mem_iff
  have hs : (sortI row).Pairwise lt2 := sortX_sorted lt2_tr lt2_tot _ R.nd
  rw [orderL_eq, List.pairwise_map]
  refine pairwise_flat _ _ (fun p hp => ?_) (pairwise_ix fun i j hi hj hij x hx y hy h => ?_)
  · obtain ⟨i, hi, rfl⟩ := List.getElem_of_mem hp
    refine (sortX_sorted (ltK_tr _) (ltK_tot _) _ (a.nd hi)).imp_of_mem ?_
    intro x y hx hy hxy hw
    have hx := (sortX_perm _ _).mem_iff.1 hx
    have hy := (sortX_perm _ _).mem_iff.1 hy
    have lx := a.ltn hi hx
    have ly := a.ltn hi hy
    have mx := (hm _).1 (nth_mem lx)
    have my := (hm _).1 (nth_mem ly)
    obtain ⟨h1, h2 | h2⟩ := hw
    · exact h2 (of_rch R hA ((a.scc i hi x hx y ly).1 hy).2)
    · simp only [ltK, hA _ mx, hA _ my] at hxy
      rcases hxy with g | ⟨g1, g2⟩
      · omega
      · rcases h2 with h2 | ⟨_, h2⟩
        · omega
        · have := List.pairwise_iff_getElem.1 hs x y lx ly g2
          rw [nthI, nthI, List.getD_eq_getElem?_getD, List.getD_eq_getElem?_getD, List.getElem?_eq_getElem lx, List.getElem?_eq_getElem ly] at h2
          exact lt2_irr _ (lt2_tr _ _ _ this h2)
  · have hx := (sortX_perm _ _).mem_iff.1 hx
    have hy := (sortX_perm _ _).mem_iff.1 hy
    have lx := a.ltn hi hx
    have ly := a.ltn hj hy
    have mx := (hm _).1 (nth_mem lx)
    have my := (hm _).1 (nth_mem ly)
    obtain ⟨q, hq, hle, hyq⟩ := a.down (rch_of R c hA h.1 mx my x y lx ly rfl rfl) i hi hx
    have := a.part hq hj hyq hy
    omega
end
end Go.Fw

/-! Rounds, and the plan. -/
set_option linter.unusedSimpArgs false
set_option linter.unusedVariables false
namespace Go.Fw
open Go
theorem up_g (d : Dp) (k : Nat) (x : Int) (r : Nat) (hr : r < 7) : (Dp.up d k x).g r = if r = k then x else d.g r := by
  rw [Dp.up_g]
  by_cases h : r = k
  · subst h; simp [hr]
  · simp [h]
theorem upD_le {r : Nat} (hr : r < 7) (s : Int) : ∀ (l : List I2) (d : Dp), s ≤ (upD d l).g r ↔ s ≤ d.g r ∨ ∃ i ∈ l, i.1.toNat = r ∧ s ≤ i.2
  | [], d => by simp [upD]
  | x :: l, d => by
    have ih := upD_le hr s l (Dp.up d x.1.toNat (max (d.g x.1.toNat) x.2))
    show s ≤ (upD (Dp.up d x.1.toNat (max (d.g x.1.toNat) x.2)) l).g r ↔ _
    rw [ih, up_g _ _ _ _ hr]
    by_cases e : r = x.1.toNat
    · rw [if_pos e]
      constructor
      · rintro (h | ⟨i, hi, h⟩)
        · rw [← e] at h
          by_cases h2 : s ≤ d.g r
          · exact .inl h2
          · exact .inr ⟨x, List.mem_cons_self .., e.symm, by omega⟩
        · exact .inr ⟨i, List.mem_cons_of_mem _ hi, h⟩
      · rintro (h | ⟨i, hi, h1, h2⟩)
        · rw [← e]; exact .inl (by omega)
        · rcases List.mem_cons.1 hi with rfl | hi
          · exact .inl (by omega)
          · exact .inr ⟨i, hi, h1, h2⟩
    · rw [if_neg e]
      constructor
      · rintro (h | ⟨i, hi, h⟩)
        · exact .inl h
        · exact .inr ⟨i, List.mem_cons_of_mem _ hi, h⟩
      · rintro (h | ⟨i, hi, h1, h2⟩)
        · exact .inl h
        · rcases List.mem_cons.1 hi with rfl | hi
          · exact absurd h1.symm e
          · exact .inr ⟨i, hi, h1, h2⟩
/-- the plan so far: what is done lies between; all of it once -/
structure PI (C : LogL) (d0 : Dp) (done : Dp) (out : List I2) : Prop where
  nd : out.Nodup
  inC : ∀ i ∈ out, lkC i C ≠ none
  mem : ∀ i, i ∈ out ↔ 0 ≤ i.1 ∧ i.1 < 7 ∧ d0.g i.1.toNat < i.2 ∧ i.2 ≤ done.g i.1.toNat
  ge : ∀ r, r < 7 → d0.g r ≤ done.g r
theorem PI.start (C : LogL) (d0 : Dp) : PI C d0 d0 [] := ⟨.nil, by simp, fun i => by simp only [List.not_mem_nil, false_iff]; omega, fun _ _ => Int.le_refl _⟩
theorem PI.len {C : LogL} {d0 done : Dp} {out : List I2} (h : PI C d0 done out) : out.length ≤ C.length := row_le h.nd h.inC
/-- what a row is -/
structure RowI (C : LogL) (done : Dp) (row : List I2) : Prop where
  nd : row.Nodup
  inC : ∀ i ∈ row, lkC i C ≠ none
  rp : ∀ i ∈ row, 0 ≤ i.1 ∧ i.1 < 7
  new : ∀ i ∈ row, done.g i.1.toNat < i.2
  cl : ∀ i ∈ row, ∀ k ∈ hangL done i (attC C i), k ∈ row
theorem visit_all {C : LogL} {P : I2 → Prop} : ∀ {ks row row' : List I2}, visit C row ks = .inl row' → (∀ i ∈ row, P i) → (∀ i ∈ ks, P i) → ∀ i ∈ row', P i
  | [], row, row', h, h1, _ => by cases h; exact h1
  | x :: ks, row, row', h, h1, h2 => by
    simp only [visit] at h
    split at h
    · cases h
    · refine visit_all h (fun i hi => ?_) fun i hi => h2 i (List.mem_cons_of_mem _ hi)
      split at hi
      · exact h1 i hi
      · rcases List.mem_append.1 hi with hi | hi
        · exact h1 i hi
        · simp only [List.mem_singleton] at hi; subst hi; exact h2 i (List.mem_cons_self ..)
theorem bfs_all {C : LogL} {done : Dp} {P : I2 → Prop} (hP : ∀ i a, ∀ k ∈ hangL done i a, P k) : ∀ {f at_ : Nat} {row row' : List I2}, bfs C done f at_ row = .inl row' → (∀ i ∈ row, P i) → ∀ i ∈ row', P i
  | 0, at_, row, row', h, h1 => by cases h; exact h1
  | f + 1, at_, row, row', h, h1 => by
    simp only [bfs] at h
    split at h
    · cases h; exact h1
    · split at h
      · cases h
      · rename_i hr
        exact bfs_all hP h (visit_all hr h1 (hP _ _))
theorem hang_new {done : Dp} {i k : I2} {a : Att} (h : k ∈ hangL done i a) : (0 ≤ k.1 ∧ k.1 < 7) ∧ done.g k.1.toNat < k.2 := by
  obtain ⟨r, hr, e, h1, h2⟩ := mem_hangL.1 h
  rw [e]; exact ⟨by omega, by simpa using h1⟩
theorem hangs_row {C : LogL} {done : Dp} {r : Nat} (hr : r < 7) {row : List I2} (h : hangs C done ((r : Int), done.g r + 1) = .inl row) (hc : lkC ((r : Int), done.g r + 1) C ≠ none) : RowI C done row ∧ ((r : Int), done.g r + 1) ∈ row := by
  obtain ⟨h1, h2, h3, h4⟩ := hangs_inl h hc
  have h5 := bfs_all (P := fun k => (0 ≤ k.1 ∧ k.1 < 7) ∧ done.g k.1.toNat < k.2) (fun i a k hk => hang_new hk) h (by simp; omega)
  exact ⟨⟨h1, h2, fun i hi => (h5 i hi).1, fun i hi => (h5 i hi).2, h4⟩, h3⟩
theorem RowI.up {C : LogL} {done : Dp} {row l : List I2} (R : RowI C done row) (hl : l.Perm row) {i : I2} (hi : 0 ≤ i.1 ∧ i.1 < 7) : i ∈ row ↔ done.g i.1.toNat < i.2 ∧ i.2 ≤ (upD done l).g i.1.toNat := by
  rw [upD_le (by omega)]
  constructor
  · intro h; exact ⟨R.new i h, .inr ⟨i, hl.mem_iff.2 h, rfl, Int.le_refl _⟩⟩
  · rintro ⟨h1, h2 | ⟨j, hj, e, h2⟩⟩
    · omega
    · have hj := hl.mem_iff.1 hj
      have hp := R.rp j hj
      by_cases he : j.2 = i.2
      · have : j = i := Prod.ext (by omega) he
        rw [← this]; exact hj
      · refine R.cl j hj i (mem_hangL.2 ⟨i.1.toNat, by omega, by omega, h1, ?_⟩)
        unfold upto
        rw [if_pos (by omega)]; omega
theorem PI.step {C : LogL} {d0 done : Dp} {out row l : List I2} (h : PI C d0 done out) (R : RowI C done row) (hl : l.Perm row) : PI C d0 (upD done l) (out ++ l) where
  nd := List.nodup_append.2 ⟨h.nd, hl.nodup_iff.2 R.nd, by
    rintro a ha b hb rfl
    have := ((h.mem a).1 ha).2.2.2
    have := R.new a (hl.mem_iff.1 hb)
    omega⟩
  inC i hi := by
    rcases List.mem_append.1 hi with hi | hi
    · exact h.inC i hi
    · exact R.inC i (hl.mem_iff.1 hi)
  mem i := by
    rw [List.mem_append, h.mem, hl.mem_iff]
    by_cases hp : 0 ≤ i.1 ∧ i.1 < 7
    · rw [R.up hl hp]
      have hg := h.ge i.1.toNat (by omega)
      have hm := (upD_le (r := i.1.toNat) (by omega) (done.g i.1.toNat) l done).2 (.inl (Int.le_refl _))
      constructor
      · rintro (g | g) <;> omega
      · intro g; omega
    · constructor
      · rintro (g | g)
        · omega
        · exact absurd (R.rp i g) hp
      · intro g; omega
  ge r hr := Int.le_trans (h.ge r hr) ((upD_le hr (done.g r) l done).2 (.inl (Int.le_refl _)))
/-- its order -/
structure PO (A : I2 → Att) (done : Dp) (out : List I2) : Prop where
  cl : ClD A done
  v : ∀ i ∈ out, V2 i ∧ i.2 ≤ done.g i.1.toNat
  ord : out.Pairwise fun i j => ¬ Wr A i j
theorem PO.start (A : I2 → Att) : PO A Dp.zero [] := ⟨fun i hv hi => by
  have e : Dp.zero.g i.1.toNat = 0 := by unfold Dp.g; split <;> rfl
  have := hv.2.2; omega, by simp, .nil⟩
theorem PO.step {C : LogL} {A : I2 → Att} {done : Dp} {out row : List I2} (h : PO A done out) (R : RowI C done row) (hA : ∀ i ∈ row, attC C i = A i) (hv : ∀ i ∈ row, V2 i) : PO A (upD done (orderL C row)) (out ++ orderL C row) := by
  have hl := orderL_perm C row
  have RR : Row A done row := ⟨R.nd, hv, R.new, fun i hi k hk => R.cl i hi k (by rw [hA i hi]; exact hk)⟩
  have mono : ∀ r, r < 7 → done.g r ≤ (upD done (orderL C row)).g r := fun r hr => (upD_le hr (done.g r) _ done).2 (.inl (Int.le_refl _))
  refine ⟨fun i hvi hi r hr => ?_, fun i hi => ?_, ?_⟩
  · by_cases hd : i.2 ≤ done.g i.1.toNat
    · exact Int.le_trans (h.cl i hvi hd r hr) (mono r hr)
    · have hi' : i ∈ row := (R.up hl ⟨hvi.1, hvi.2.1⟩).2 ⟨by omega, hi⟩
      by_cases hu : upto i (A i) r ≤ done.g r
      · exact Int.le_trans hu (mono r hr)
      · have := RR.cl i hi' ((r : Int), upto i (A i) r) (mem_hangL.2 ⟨r, hr, rfl, by simp; omega, Int.le_refl _⟩)
        have := ((R.up hl (R.rp _ this)).1 this).2
        simpa using this
  · rcases List.mem_append.1 hi with hi | hi
    · have := h.v i hi
      exact ⟨this.1, Int.le_trans this.2 (mono _ (by have := this.1; omega))⟩
    · have hi := hl.mem_iff.1 hi
      exact ⟨hv i hi, ((R.up hl (R.rp i hi)).1 hi).2⟩
  · rw [List.pairwise_append]
    refine ⟨h.ord, order_ok RR h.cl hA, fun i hi j hj hw => ?_⟩
    have hj := hl.mem_iff.1 hj
    have := hw.1.closed (D := fun z => V2 z ∧ z.2 ≤ done.g z.1.toNat) (fun a b ⟨h1, h2⟩ he => ⟨he.1, h.cl.edge h1 h2 he⟩) (h.v i hi)
    have := R.new j hj
    omega
/-! a round -/
/-- why a root can't be done -/
def Stuck (C : LogL) (done : Dp) (r : Nat) : Prop := lkC ((r : Int), done.g r + 1) C = none ∨ ∃ k, hangs C done ((r : Int), done.g r + 1) = .inr k
structure RI (C : LogL) (d0 done0 : Dp) (out0 : List I2) (n : Nat) (s : PS) : Prop where
  pi : PI C d0 s.done s.out
  len : if s.did then out0.length < s.out.length else s.done = done0 ∧ s.out = out0
  mis : ∀ k ∈ s.mis, lkC k C = none
  nd : s.mis.Nodup
  stuck : s.did = false → ∀ r, r < n → Stuck C done0 r
theorem addI_mem {k x : I2} {l : List I2} : x ∈ addI k l ↔ x = k ∨ x ∈ l := by
  unfold addI
  split
  · rename_i h; exact ⟨.inr, fun g => g.elim (fun e => e ▸ h) id⟩
  · simp [or_comm]
theorem addI_nd {k : I2} {l : List I2} (h : l.Nodup) : (addI k l).Nodup := by
  unfold addI
  split
  · exact h
  · rename_i hk; exact List.nodup_append.2 ⟨h, by simp, by simp only [List.mem_singleton]; rintro a ha b rfl rfl; exact hk ha⟩
theorem RI.step {C : LogL} {d0 done0 : Dp} {out0 : List I2} {n : Nat} {s : PS} (h : RI C d0 done0 out0 n s) (hn : n < 7) : RI C d0 done0 out0 (n + 1) (stepP C s n) := by
  have stk : s.did = false → Stuck C s.done n → ∀ r, r < n + 1 → Stuck C done0 r := fun hd hs r hr => by
    have hl := h.len
    rw [hd] at hl
    rcases Nat.lt_or_eq_of_le (Nat.le_of_lt_succ hr) with hr | rfl
    · exact h.stuck hd r hr
    · rw [← hl.1]; exact hs
  unfold stepP
  split
  · rename_i hc
    split
    · exact ⟨h.pi, h.len, fun k hk => by
        rcases addI_mem.1 hk with rfl | hk
        · exact hc
        · exact h.mis k hk, addI_nd h.nd, fun hd => stk hd (.inl hc)⟩
    · exact ⟨h.pi, h.len, h.mis, h.nd, fun hd => stk hd (.inl hc)⟩
  · rename_i hc
    split
    · rename_i k hk
      exact ⟨h.pi, h.len, fun k' hk' => by
        rcases addI_mem.1 hk' with rfl | hk'
        · exact (hangs_inr hk hc (D := fun _ => True) (fun _ _ _ _ _ => trivial) trivial).2
        · exact h.mis k' hk', addI_nd h.nd, fun hd => stk hd (.inr ⟨k, hk⟩)⟩
    · rename_i row hk
      obtain ⟨R, hm⟩ := hangs_row hn hk hc
      have hl := orderL_perm C row
      refine ⟨h.pi.step R hl, ?_, h.mis, h.nd, fun hd => by cases hd⟩
      simp only [if_true, List.length_append]
      have := List.length_pos_of_mem hm
      rw [← hl.length_eq] at this
      have hlen := h.len
      split at hlen
      · omega
      · rw [hlen.2]; omega
theorem round_ok {C : LogL} {d0 done : Dp} {out : List I2} (h : PI C d0 done out) : RI C d0 done out 7 (roundP C done out) := by
  have key : ∀ n, n ≤ 7 → RI C d0 done out n ((List.range n).foldl (stepP C) ⟨done, out, [], false⟩) := fun n => by
    induction n with
    | zero => intro _; exact ⟨h, by simp, by simp, .nil, by omega⟩
    | succ n ih => intro hn; rw [List.range_succ, List.foldl_append]; exact (ih (by omega)).step (by omega)
  exact key 7 (Nat.le_refl _)
theorem round_po {C : LogL} {A : I2 → Att} {d0 done : Dp} {out out1 : List I2} (hC : ∀ i, lkC i C ≠ none → attC C i = A i ∧ V2 i) (h : PI C d0 done out) (p : PO A done (out1 ++ out)) : PO A (roundP C done out).done (out1 ++ (roundP C done out).out) := by
  have key : ∀ n, n ≤ 7 → PI C d0 ((List.range n).foldl (stepP C) ⟨done, out, [], false⟩).done ((List.range n).foldl (stepP C) ⟨done, out, [], false⟩).out ∧ PO A ((List.range n).foldl (stepP C) ⟨done, out, [], false⟩).done (out1 ++ ((List.range n).foldl (stepP C) ⟨done, out, [], false⟩).out) := fun n => by
    induction n with
    | zero => intro _; exact ⟨h, p⟩
    | succ n ih =>
      intro hn
      obtain ⟨h, p⟩ := ih (by omega)
      rw [List.range_succ, List.foldl_append]
      generalize (List.range n).foldl (stepP C) ⟨done, out, [], false⟩ = s at h p
      show PI C d0 (stepP C s n).done (stepP C s n).out ∧ PO A (stepP C s n).done (out1 ++ (stepP C s n).out)
      unfold stepP
      split
      · split <;> exact ⟨h, p⟩
      · rename_i hc
        split
        · exact ⟨h, p⟩
        · rename_i row hk
          obtain ⟨R, hm⟩ := hangs_row (by omega) hk hc
          exact ⟨h.step R (orderL_perm C row), by rw [← List.append_assoc]; exact p.step R (fun i hi => (hC i (R.inC i hi)).1) fun i hi => (hC i (R.inC i hi)).2⟩
  exact (key 7 (Nat.le_refl _)).2
/-! the plan -/
/-- how it ends -/
structure Fin (C : LogL) (d0 done : Dp) (out mis : List I2) : Prop where
  pi : PI C d0 done out
  stuck : ∀ r, r < 7 → Stuck C done r
  last : (roundP C done out).did = false ∧ mis = sortI (roundP C done out).mis
  mis : ∀ k ∈ mis, lkC k C = none
theorem planP_fin {C : LogL} {d0 : Dp} : ∀ {f : Nat} {done : Dp} {out : List I2}, PI C d0 done out → C.length < f + out.length → ∃ done', Fin C d0 done' (planP C f done out).1 (planP C f done out).2
  | 0, done, out, h, hf => by
    have := h.len
    omega
  | f + 1, done, out, h, hf => by
    have R := round_ok h
    simp only [planP]
    cases hd : (roundP C done out).did with
    | true =>
      rw [if_pos rfl]
      have hl := R.len
      rw [hd, if_pos rfl] at hl
      exact planP_fin R.pi (by omega)
    | false =>
      rw [if_neg (by simp)]
      have hl := R.len
      rw [hd] at hl
      simp only [Bool.false_eq_true, if_false] at hl
      refine ⟨done, by rw [hl.2]; exact h, R.stuck hd, ⟨by rw [hl.2]; exact hd, by rw [hl.2]⟩, fun k hk => R.mis k ((sortX_perm _ _).mem_iff.1 hk)⟩
theorem planP_po {C : LogL} {A : I2 → Att} {d0 : Dp} {out1 : List I2} (hC : ∀ i, lkC i C ≠ none → attC C i = A i ∧ V2 i) : ∀ {f : Nat} {done : Dp} {out : List I2}, PI C d0 done out → C.length < f + out.length → PO A done (out1 ++ out) →
    ∃ done', Fin C d0 done' (planP C f done out).1 (planP C f done out).2 ∧ PO A done' (out1 ++ (planP C f done out).1)
  | 0, done, out, h, hf, _ => by
    have := h.len
    omega
  | f + 1, done, out, h, hf, p => by
    have R := round_ok h
    have p2 := round_po hC h p
    simp only [planP]
    cases hd : (roundP C done out).did with
    | true =>
      rw [if_pos rfl]
      have hl := R.len
      rw [hd, if_pos rfl] at hl
      exact planP_po hC R.pi (by omega) p2
    | false =>
      rw [if_neg (by simp)]
      have hl := R.len
      rw [hd] at hl
      simp only [Bool.false_eq_true, if_false] at hl
      refine ⟨done, ⟨by rw [hl.2]; exact h, R.stuck hd, ⟨by rw [hl.2]; exact hd, by rw [hl.2]⟩, fun k hk => R.mis k ((sortX_perm _ _).mem_iff.1 hk)⟩, by rw [hl.2]; exact p⟩
theorem planL_fin (C : LogL) (d0 : Dp) : ∃ done', Fin C d0 done' (planL C d0).1 (planL C d0).2 := planP_fin (PI.start C d0) (by simp)
/-- planned again: nothing more -/
theorem planL_again {C : LogL} {d0 done : Dp} {out mis : List I2} (h : Fin C d0 done out mis) : planL C done = ([], mis) := by
  have key : ∀ n, ∀ o1 o2 m : List I2, ((List.range n).foldl (stepP C) ⟨done, o1, m, false⟩).did = false → (List.range n).foldl (stepP C) ⟨done, o2, m, false⟩ = { (List.range n).foldl (stepP C) ⟨done, o1, m, false⟩ with out := o2 } ∧ ((List.range n).foldl (stepP C) ⟨done, o1, m, false⟩).done = done ∧ ((List.range n).foldl (stepP C) ⟨done, o1, m, false⟩).out = o1 := fun n => by
    induction n with
    | zero => intro o1 o2 m _; exact ⟨rfl, rfl, rfl⟩
    | succ n ih =>
      intro o1 o2 m hd
      rw [List.range_succ, List.foldl_append, List.foldl_append] at *
      simp only [List.foldl_cons, List.foldl_nil] at *
      have hd0 : ((List.range n).foldl (stepP C) ⟨done, o1, m, false⟩).did = false := by
        cases h0 : ((List.range n).foldl (stepP C) ⟨done, o1, m, false⟩).did with
        | false => rfl
        | true =>
          have : (stepP C ((List.range n).foldl (stepP C) ⟨done, o1, m, false⟩) n).did = true := by
            unfold stepP; split
            · split <;> exact h0
            · split
              · exact h0
              · rfl
          rw [this] at hd; cases hd
      obtain ⟨e1, e2, e3⟩ := ih o1 o2 m hd0
      rw [e1]
      generalize (List.range n).foldl (stepP C) ⟨done, o1, m, false⟩ = s at *
      obtain ⟨a, b, c, d⟩ := s
      dsimp only at *
      subst e2 e3 hd0
      unfold stepP at *
      dsimp only at *
      split
      · rename_i hc
        split
        · exact ⟨rfl, rfl, rfl⟩
        · exact ⟨rfl, rfl, rfl⟩
      · rename_i hc
        rw [if_neg hc] at hd
        split
        · exact ⟨rfl, rfl, rfl⟩
        · rename_i row hk
          rw [hk] at hd
          cases hd
  obtain ⟨hd, hm⟩ := h.last
  obtain ⟨e1, e2, e3⟩ := key 7 out [] [] hd
  have e : roundP C done [] = { roundP C done out with out := [] } := e1
  unfold planL
  simp only [planP]
  rw [e]
  simp only [hd, Bool.false_eq_true, if_false, hm]
/-- all that may be done is -/
theorem Fin.most {C : LogL} {A : I2 → Att} {d0 done : Dp} {out mis : List I2} (h : Fin C d0 done out mis) (hC : ∀ i, lkC i C ≠ none → attC C i = A i) (h0 : ∀ r, r < 7 → 0 ≤ done.g r) {D : Dp} (hD : ClD A D) (hin : ∀ i, V2 i → i.2 ≤ D.g i.1.toNat → lkC i C ≠ none) : ∀ r, r < 7 → D.g r ≤ done.g r := by
  intro r hr
  apply Classical.byContradiction
  intro hn
  have g0 := h0 r hr
  have hroot : V2 ((r : Int), done.g r + 1) := ⟨by simp, by simp; omega, by simp; omega⟩
  have hle : done.g r + 1 ≤ D.g r := by omega
  have hc := hin _ hroot (by simpa using hle)
  rcases h.stuck r hr with hs | ⟨k, hk⟩
  · exact hc hs
  · obtain ⟨h1, h2⟩ := hangs_inr hk hc (D := fun i => V2 i ∧ i.2 ≤ D.g i.1.toNat) (fun i ⟨hv, hi⟩ hic k hk => by
      have hk2 := hk
      obtain ⟨q, hq, e, a1, a2⟩ := mem_hangL.1 hk
      have := hang_new hk2
      have ha : attC C i = A i := hC i hic
      have := hD i hv hi q hq
      rw [← ha] at this
      have g := h0 q hq
      refine ⟨⟨by omega, by omega, by omega⟩, ?_⟩
      rw [e, Int.toNat_natCast]
      exact Int.le_trans a2 this) ⟨hroot, by simpa using hle⟩
    exact hin k h1.1 h1.2 h2
end Go.Fw

/-! For the laws: counts, what is done, the chain. -/
set_option linter.unusedSimpArgs false
set_option linter.unusedVariables false
namespace Go.Fw
open Go
theorem le_of_all {a b : Int} (h : ∀ s : Int, s ≤ a ↔ s ≤ b) : a = b := by
  have h1 := (h a).1 (Int.le_refl _); have h2 := (h b).2 (Int.le_refl _); omega
theorem PI.upD_eq {C : LogL} {d0 done : Dp} {out : List I2} (h : PI C d0 done out) : upD d0 out = done := by
  refine Dp.ext_g fun r hr => le_of_all fun s => ?_
  rw [upD_le hr]
  have hg := h.ge r hr
  constructor
  · rintro (g | ⟨i, hi, e, g⟩)
    · omega
    · have := (h.mem i).1 hi
      rw [e] at this; omega
  · intro g
    by_cases h0 : s ≤ d0.g r
    · exact .inl h0
    · refine .inr ⟨((r : Int), done.g r), (h.mem _).2 ⟨by simp, by simp; omega, ?_, ?_⟩, by simp, by simpa using g⟩
      · simp; omega
      · simp
theorem PI.count {C : LogL} {done : Dp} {out : List I2} (h : PI C Dp.zero done out) : (out.length : Int) = done.g 0 + done.g 1 + done.g 2 + done.g 3 + done.g 4 + done.g 5 + done.g 6 := by
  have z : ∀ r, Dp.zero.g r = 0 := fun r => by unfold Dp.g; split <;> rfl
  have hp : out.Perm ((List.range 7).flatMap fun r => (slots 0 (done.g r)).map fun s => ((r : Int), s)) := by
    refine (List.perm_ext_iff_of_nodup h.nd ?_).2 fun i => ?_
    · refine pairwise_flat _ _ (fun r hr => ?_) ?_
      · refine List.pairwise_map.2 (List.pairwise_map.2 ?_)
        refine List.nodup_range.imp ?_
        intro a b hab e
        simp only [Prod.mk.injEq, true_and] at e; omega
      · refine List.nodup_range.imp ?_
        intro a b hab x hx y hy e
        obtain ⟨s, _, rfl⟩ := List.mem_map.1 hx
        obtain ⟨t, _, rfl⟩ := List.mem_map.1 hy
        simp only [Prod.mk.injEq] at e; omega
    · rw [h.mem, z]
      simp only [List.mem_flatMap, List.mem_range, List.mem_map, mem_slots]
      constructor
      · rintro ⟨h1, h2, h3, h4⟩
        exact ⟨i.1.toNat, by omega, i.2, ⟨h3, h4⟩, Prod.ext (by simp; omega) rfl⟩
      · rintro ⟨r, hr, s, ⟨h1, h2⟩, rfl⟩
        refine ⟨by simp, by simp; omega, h1, by simpa using h2⟩
  have hg : ∀ r, r < 7 → 0 ≤ done.g r := fun r hr => by have := h.ge r hr; rw [z] at this; exact this
  have hl : ∀ r, ((slots 0 (done.g r)).map fun s => ((r : Int), s)).length = (done.g r).toNat := fun r => by simp [slots]
  rw [hp.length_eq]
  simp only [List.length_flatMap, List.range, List.range.loop, List.map_cons, List.map_nil, hl, List.sum_cons, List.sum_nil]
  have h0 := hg 0 (by omega); have h1 := hg 1 (by omega); have h2 := hg 2 (by omega); have h3 := hg 3 (by omega); have h4 := hg 4 (by omega); have h5 := hg 5 (by omega); have h6 := hg 6 (by omega)
  omega

/-! the chain -/
abbrev chI (i : Nat) : I2 := (((i % 3 : Nat) : Int), ((i / 3 : Nat) : Int) + 1)
def chD (i : Nat) : Dp := fun r => if r.val < 3 then (((i + 2 - r.val) / 3 : Nat) : Int) else 0
theorem chD_g (i r : Nat) : (chD i).g r = if r < 3 then (((i + 2 - r) / 3 : Nat) : Int) else 0 := by
  unfold Dp.g chD
  by_cases h : r < 7
  · simp [h]
  · rw [dif_neg h, if_neg (by omega)]
abbrev chA (i : Nat) : Att := ⟨0, chD i⟩
/-- what is known: all of k but one -/
structure ChC (C : LogL) (k o : Nat) : Prop where
  yes : ∀ i, i < k → i ≠ o → ∃ c : Cel, lkC (chI i) C = some c ∧ c.att = chA i
  no : ∀ x, lkC x C ≠ none → ∃ i, i < k ∧ i ≠ o ∧ x = chI i
theorem chI_inj {i j : Nat} (h : chI i = chI j) : i = j := by
  simp only [Prod.mk.injEq] at h; omega
section
variable {C : LogL} {k o : Nat}
theorem ChC.none (h : ChC C k o) {x : I2} (hx : ∀ i, i < k → i ≠ o → x ≠ chI i) : lkC x C = none := by
  apply Classical.byContradiction
  intro hn
  obtain ⟨i, h1, h2, e⟩ := h.no x hn
  exact hx i h1 h2 e
theorem ch_root (i r : Nat) (hr : r < 3) (j : Nat) (hj : j % 3 = r) (h1 : i ≤ j) (h2 : j < i + 3) : ((r : Int), (chD i).g r + 1) = chI j := by
  rw [chD_g, if_pos hr]
  simp only [Prod.mk.injEq]; omega
theorem ch_hang (i j r : Nat) (h1 : i ≤ j) (h2 : j < i + 3) (x : I2) : x ∈ hangL (chD i) (chI j) (chA j) ↔ ∃ q, i ≤ q ∧ q < j ∧ x = chI q := by
  rw [mem_hangL]
  simp only [upto, chD_g]
  constructor
  · rintro ⟨r, hr, e, h3, h4⟩
    by_cases h : r < 3
    · rw [if_pos h] at h3 h4
      refine ⟨3 * (x.2.toNat - 1) + r, ?_, ?_, ?_⟩
      · omega
      · split at h4 <;> omega
      · refine Prod.ext ?_ ?_
        · rw [e]; show (r : Int) = (((3 * (x.2.toNat - 1) + r) % 3 : Nat) : Int); omega
        · show x.2 = (((3 * (x.2.toNat - 1) + r) / 3 : Nat) : Int) + 1; omega
    · rw [if_neg h] at h3 h4
      split at h4
      · rename_i e2
        have e2 : (r : Int) = ((j % 3 : Nat) : Int) := e2
        omega
      · omega
  · rintro ⟨q, h3, h4, rfl⟩
    refine ⟨q % 3, by omega, rfl, ?_, ?_⟩
    · rw [if_pos (by omega)]; show _ < ((q / 3 : Nat) : Int) + 1; omega
    · have h3 : q % 3 < 3 := by omega
      simp only [if_pos h3]
      split
      · rename_i e2
        have e2 : ((q % 3 : Nat) : Int) = ((j % 3 : Nat) : Int) := e2
        show ((q / 3 : Nat) : Int) + 1 ≤ max _ (((j / 3 : Nat) : Int) + 1 - 1); omega
      · show ((q / 3 : Nat) : Int) + 1 ≤ _; omega
theorem hangL_nil {i : Nat} : hangL (chD i) (chI i) (chA i) = [] := by
  refine List.eq_nil_iff_forall_not_mem.2 fun x hx => ?_
  obtain ⟨q, h1, h2, _⟩ := (ch_hang i i 0 (Nat.le_refl _) (by omega) x).1 hx
  omega
theorem hangs_one {done : Dp} {root : I2} (h : hangL done root (attC C root) = []) : hangs C done root = .inl [root] := by
  unfold hangs
  simp only [bfs, List.getElem?_cons_zero, h, visit]
  cases hC : C.length with
  | zero => simp [bfs]
  | succ n => simp [bfs]
theorem orderL_one (x : I2) : orderL C [x] = [x] := List.perm_singleton.1 (orderL_perm C [x])
theorem upD_one (i : Nat) : upD (chD i) [chI i] = chD (i + 1) := by
  refine Dp.ext_g fun r hr => ?_
  show (Dp.up (chD i) (chI i).1.toNat (max ((chD i).g (chI i).1.toNat) (chI i).2)).g r = _
  rw [up_g _ _ _ _ hr, chD_g, chD_g, chD_g]
  have e : (chI i).1.toNat = i % 3 := by show (((i % 3 : Nat) : Int)).toNat = _; omega
  rw [e]
  by_cases h : r = i % 3
  · subst h
    rw [if_pos rfl, if_pos (by omega), if_pos (by omega)]
    show max _ (((i / 3 : Nat) : Int) + 1) = _
    omega
  · rw [if_neg h]
    by_cases h3 : r < 3
    · rw [if_pos h3, if_pos h3]; omega
    · rw [if_neg h3, if_neg h3]
abbrev chO (i : Nat) : List I2 := (List.range i).map chI
theorem chO_succ (i : Nat) : chO (i + 1) = chO i ++ [chI i] := by simp [chO, List.range_succ]
/-- one goes on -/
theorem ch_go (h : ChC C k o) {i r : Nat} (hr : r < 3) (hi : i % 3 = r) (hk : i < k) (ho : i ≠ o) (m : List I2) (d : Bool) : stepP C ⟨chD i, chO i, m, d⟩ r = ⟨chD (i + 1), chO (i + 1), m, true⟩ := by
  obtain ⟨c, hc, ha⟩ := h.yes i hk ho
  have e := ch_root i r hr i hi (Nat.le_refl _) (by omega)
  unfold stepP
  simp only [e, hc, reduceCtorEq, if_false]
  rw [hangs_one (by rw [show attC C (chI i) = c.att by simp [attC, hc], ha]; exact hangL_nil)]
  simp only [orderL_one, upD_one, chO_succ]
/-- none goes on -/
theorem ch_stop (h : ChC C k o) {e : Nat} (he : e = k ∨ e = o) (hek : e ≤ k) {r : Nat} (hr : r < 7) (m : List I2) (d : Bool) (hm : m = [] ∨ m = [chI e]) :
    ∃ m', stepP C ⟨chD e, chO e, m, d⟩ r = ⟨chD e, chO e, m', d⟩ ∧ (m' = [] ∨ m' = [chI e]) ∧ (m = [chI e] → m' = [chI e]) ∧ (e + 1 < k → r = (e + 1) % 3 → m' = [chI e]) ∧ (k ≤ e + 1 → m' = m) := by
  have hadd : addI (chI e) m = [chI e] := by
    rcases hm with rfl | rfl <;> simp [addI]
  have hnoe : ∀ i, i < k → i ≠ o → i ≠ e := fun i h1 h2 h3 => by omega
  by_cases h3 : r < 3
  · obtain ⟨j, hj1, hj2, hj3⟩ : ∃ j, j % 3 = r ∧ e ≤ j ∧ j < e + 3 := by
      by_cases a : e % 3 = r
      · exact ⟨e, a, Nat.le_refl _, by omega⟩
      · by_cases b : (e + 1) % 3 = r
        · exact ⟨e + 1, b, by omega, by omega⟩
        · exact ⟨e + 2, by omega, by omega, by omega⟩
    have er := ch_root e r h3 j hj1 hj2 hj3
    unfold stepP
    simp only [er]
    by_cases hjC : j < k ∧ j ≠ o
    · obtain ⟨c, hc, ha⟩ := h.yes j hjC.1 hjC.2
      have hje : j ≠ e := hnoe j hjC.1 hjC.2
      simp only [hc, reduceCtorEq, if_false]
      have hat : attC C (chI j) = chA j := by rw [← ha]; simp [attC, hc]
      have hgap : hangs C (chD e) (chI j) = .inr (chI e) := by
        cases hh : hangs C (chD e) (chI j) with
        | inl row =>
          exfalso
          obtain ⟨h1, h2, h4, h5⟩ := hangs_inl hh (by rw [hc]; simp)
          have := h5 (chI j) h4 (chI e) (by rw [show ((lkC (chI j) C).getD Cel.zero).att = chA j from hat]; exact (ch_hang e j 0 hj2 hj3 _).2 ⟨e, Nat.le_refl _, by omega, rfl⟩)
          obtain ⟨q, q1, q2, q3⟩ := h.no _ (h2 _ this)
          exact hnoe q q1 q2 (chI_inj q3).symm
        | inr x =>
          obtain ⟨⟨q, q1, q2, rfl⟩, hx⟩ := hangs_inr hh (by rw [hc]; simp) (D := fun x => ∃ q, e ≤ q ∧ q ≤ j ∧ x = chI q) (fun i ⟨q, q1, q2, e1⟩ hi x hx => by
            subst e1
            obtain ⟨q', q3, q4, e2⟩ := h.no _ hi
            have := chI_inj e2
            subst this
            obtain ⟨c', hc', ha'⟩ := h.yes q q3 q4
            rw [show ((lkC (chI q) C).getD Cel.zero).att = chA q by simp [hc', ha']] at hx
            obtain ⟨p, p1, p2, rfl⟩ := (ch_hang e q 0 q1 (by omega) x).1 hx
            exact ⟨p, p1, by omega, rfl⟩) ⟨j, hj2, Nat.le_refl _, rfl⟩
          have : q = e := by
            apply Classical.byContradiction
            intro hne
            obtain ⟨c', hc', _⟩ := h.yes q (by omega) (by omega)
            rw [hc'] at hx; cases hx
          rw [this]
      rw [hgap]
      exact ⟨[chI e], by simp only [hadd], .inr rfl, fun _ => rfl, fun _ _ => rfl, fun hk => by omega⟩
    · have hn : lkC (chI j) C = none := h.none fun i h1 h2 e' => hjC (by rw [chI_inj e']; exact ⟨h1, h2⟩)
      simp only [hn, if_true]
      split
      · rename_i hb
        obtain ⟨x, hx, b1, b2⟩ := hb
        obtain ⟨i, i1, i2, rfl⟩ := h.no x (fun e' => by rw [lkC_none] at e'; exact e' hx)
        have b1 : ((i % 3 : Nat) : Int) = ((j % 3 : Nat) : Int) := b1
        have b2 : ((j / 3 : Nat) : Int) + 1 < ((i / 3 : Nat) : Int) + 1 := b2
        have hje : j = e := by omega
        subst hje
        exact ⟨[chI j], by simp only [hadd], .inr rfl, fun _ => rfl, fun _ _ => rfl, fun hk => by omega⟩
      · exact ⟨m, rfl, hm, id, fun h1 h2 => by omega, fun _ => rfl⟩
  · have er : (chD e).g r = 0 := by rw [chD_g, if_neg h3]
    unfold stepP
    simp only [er]
    have hn : lkC ((r : Int), (0 : Int) + 1) C = none := h.none fun i h1 h2 e' => by simp only [Prod.mk.injEq] at e'; omega
    simp only [hn, if_true]
    rw [if_neg]
    · exact ⟨m, rfl, hm, id, fun h1 h2 => by omega, fun _ => rfl⟩
    · rintro ⟨x, hx, b1, b2⟩
      obtain ⟨i, i1, i2, rfl⟩ := h.no x (fun e' => by rw [lkC_none] at e'; exact e' hx)
      have b1 : ((i % 3 : Nat) : Int) = (r : Int) := b1
      omega
end
end Go.Fw

/-! The chain's plan; the one order. -/
set_option linter.unusedSimpArgs false
set_option linter.unusedVariables false
namespace Go.Fw
open Go
section
variable {C : LogL} {k o : Nat}
/-- how far it goes -/
abbrev chE (k o : Nat) : Nat := if o < k then o else k
theorem ch_fold (h : ChC C k o) {i : Nat} (hi : i ≤ chE k o) (h3 : i % 3 = 0 ∨ i = chE k o) : ∃ m, roundP C (chD i) (chO i) = ⟨chD (min (i + 3) (chE k o)), chO (min (i + 3) (chE k o)), m, decide (i < chE k o)⟩ ∧
    (i = chE k o → (m = [] ∨ m = [chI i]) ∧ (i + 1 < k → m = [chI i]) ∧ (k ≤ i + 1 → m = [])) := by
  have he : chE k o = k ∨ chE k o = o := by unfold chE; split <;> simp
  have hek : chE k o ≤ k := by unfold chE; split <;> omega
  have hlt : ∀ j, j < chE k o → j < k ∧ j ≠ o := fun j hj => by unfold chE at hj; split at hj <;> omega
  generalize chE k o = e at *
  -- the rows behind the third, and stops
  have stops : ∀ (l : List Nat) (m : List I2) (d : Bool), (∀ r ∈ l, r < 7) → (m = [] ∨ m = [chI e]) → ∃ m', l.foldl (stepP C) ⟨chD e, chO e, m, d⟩ = ⟨chD e, chO e, m', d⟩ ∧ (m' = [] ∨ m' = [chI e]) ∧ (m = [chI e] → m' = [chI e]) ∧ (e + 1 < k → (e + 1) % 3 ∈ l → m' = [chI e]) ∧ (k ≤ e + 1 → m' = m) := by
    intro l
    induction l with
    | nil => intro m d _ hm; exact ⟨m, rfl, hm, id, fun _ h => by simp at h, fun _ => rfl⟩
    | cons r l ih =>
      intro m d hl hm
      obtain ⟨m1, e1, h1, h2, h3, h4⟩ := ch_stop h he hek (hl r (List.mem_cons_self ..)) m d hm
      obtain ⟨m2, e2, g1, g2, g3, g4⟩ := ih m1 d (fun r hr => hl r (List.mem_cons_of_mem _ hr)) h1
      refine ⟨m2, by rw [List.foldl_cons, e1, e2], g1, fun hm => g2 (h2 hm), fun hk hr => ?_, fun hk => (g4 hk).trans (h4 hk)⟩
      rcases List.mem_cons.1 hr with hr | hr
      · exact g2 (h3 hk hr.symm)
      · exact g3 hk hr
  have hi2 : List.range 7 = [0, 1, 2, 3, 4, 5, 6] := rfl
  unfold roundP
  rw [hi2]
  by_cases hie : i = e
  · subst hie
    obtain ⟨m, e1, h1, h2, h4, h5⟩ := stops [0, 1, 2, 3, 4, 5, 6] [] false (by simp) (.inl rfl)
    refine ⟨m, by rw [e1, show min (i + 3) i = i from by omega]; simp, fun _ => ⟨h1, fun hk => h4 hk (by have : (i + 1) % 3 < 3 := Nat.mod_lt _ (by omega); have : (i + 1) % 3 = 0 ∨ (i + 1) % 3 = 1 ∨ (i + 1) % 3 = 2 := by omega
                                                                                                         rcases this with h | h | h <;> simp [h]), h5⟩⟩
  · have h3 : i % 3 = 0 := h3.resolve_right hie
    have hile : i < e := by omega
    rw [List.foldl_cons, ch_go h (by omega) (by omega) (hlt i hile).1 (hlt i hile).2]
    have fin : ∀ (j : Nat) (l : List Nat), j = e → (∀ r ∈ l, r < 7) → min (i + 3) e = j → ∃ m, l.foldl (stepP C) ⟨chD j, chO j, [], true⟩ = ⟨chD (min (i + 3) e), chO (min (i + 3) e), m, decide (i < e)⟩ ∧ (i = e → (m = [] ∨ m = [chI i]) ∧ (i + 1 < k → m = [chI i]) ∧ (k ≤ i + 1 → m = [])) := by
      intro j l hj hl hm
      subst hj
      obtain ⟨m, e1, _⟩ := stops l [] true hl (.inl rfl)
      exact ⟨m, by rw [e1, hm]; simp [hile], fun h => absurd h hie⟩
    by_cases h1 : i + 1 = e
    · exact fin (i + 1) [1, 2, 3, 4, 5, 6] h1 (by simp) (by omega)
    · have hl1 : i + 1 < e := by omega
      rw [List.foldl_cons, ch_go h (by omega) (by omega) (hlt _ hl1).1 (hlt _ hl1).2]
      by_cases h2 : i + 2 = e
      · exact fin (i + 2) [2, 3, 4, 5, 6] h2 (by simp) (by omega)
      · have hl2 : i + 2 < e := by omega
        rw [List.foldl_cons, ch_go h (by omega) (by omega) (hlt _ hl2).1 (hlt _ hl2).2]
        by_cases h4 : i + 3 = e
        · exact fin (i + 3) [3, 4, 5, 6] h4 (by simp) (by omega)
        · -- more to come: the rows 3 .. 6 have no roots
          have idle : ∀ r, 3 ≤ r → r < 7 → stepP C ⟨chD (i + 3), chO (i + 3), [], true⟩ r = ⟨chD (i + 3), chO (i + 3), [], true⟩ := fun r hr1 hr2 => by
            have er : (chD (i + 3)).g r = 0 := by rw [chD_g, if_neg (by omega)]
            unfold stepP
            simp only [er]
            have hn : lkC ((r : Int), (0 : Int) + 1) C = none := h.none fun j h1 h2 e' => by simp only [Prod.mk.injEq] at e'; omega
            simp only [hn, if_true]
            rw [if_neg]
            rintro ⟨x, hx, b1, b2⟩
            obtain ⟨j, i1, i2, rfl⟩ := h.no x (fun e' => by rw [lkC_none] at e'; exact e' hx)
            have b1 : ((j % 3 : Nat) : Int) = (r : Int) := b1
            omega
          simp only [List.foldl_cons, List.foldl_nil, idle 3 (by omega) (by omega), idle 4 (by omega) (by omega), idle 5 (by omega) (by omega), idle 6 (by omega) (by omega)]
          exact ⟨[], by rw [show min (i + 3) e = i + 3 from by omega]; simp [hile], fun h => absurd h hie⟩
theorem ch_plan (h : ChC C k o) : ∀ (f i : Nat), i ≤ chE k o → (i % 3 = 0 ∨ i = chE k o) → chE k o < f + i → ∃ m, planP C f (chD i) (chO i) = (chO (chE k o), m) ∧ (m = [] ∨ m = [chI (chE k o)]) ∧ (chE k o + 1 < k → m = [chI (chE k o)]) ∧ (k ≤ chE k o + 1 → m = [])
  | 0, i, hi, _, hf => by omega
  | f + 1, i, hi, h3, hf => by
    obtain ⟨m, hr, hm⟩ := ch_fold h hi h3
    simp only [planP, hr]
    by_cases hie : i < chE k o
    · rw [if_pos (by simpa using hie)]
      exact ch_plan h f _ (by omega) (by omega) (by omega)
    · have hie : i = chE k o := by omega
      rw [if_neg (by simp; omega)]
      obtain ⟨m1, m2, m3⟩ := hm hie
      have hs : sortI m = m := by rcases m1 with rfl | rfl <;> simp [sortX, insX]
      rw [show min (i + 3) (chE k o) = chE k o from by omega, hs, ← hie]
      exact ⟨m, rfl, m1, m2, m3⟩
theorem chD_zero : chD 0 = Dp.zero := by
  funext i
  unfold chD
  split
  · show (((0 + 2 - i.val) / 3 : Nat) : Int) = 0; omega
  · rfl
theorem ch_planL (h : ChC C k o) (hl : chE k o ≤ C.length) : ∃ m, planL C Dp.zero = (chO (chE k o), m) ∧ (m = [] ∨ m = [chI (chE k o)]) ∧ (chE k o + 1 < k → m = [chI (chE k o)]) ∧ (k ≤ chE k o + 1 → m = []) := by
  have := ch_plan h (C.length + 1) 0 (Nat.zero_le _) (.inl rfl) (by omega)
  rw [chD_zero] at this
  exact this
end
/-! the one order: two runs -/
theorem two_orders {A : I2 → Att} {a b : List I2} (ha : a.Pairwise fun i j => ¬ Wr A i j) (hb : b.Pairwise fun i j => ¬ Wr A i j) {i j : Nat} (hi : i < a.length) (hj : j < a.length) (hij : i < j) (hne : a[i] ≠ a[j]) (ht : RA A a[i] a[j] ∨ RA A a[j] a[i])
    {p q : Nat} (hp : p < b.length) (hq : q < b.length) (ep : b[p] = a[i]) (eq : b[q] = a[j]) : p ≤ q := by
  apply Classical.byContradiction
  intro hn
  have h1 := List.pairwise_iff_getElem.1 ha i j hi hj hij
  have h2 := List.pairwise_iff_getElem.1 hb q p hq hp (by omega)
  rw [ep, eq] at h2
  rcases Wr.one hne ht with h | h
  · exact h1 h
  · exact h2 h
end Go.Fw

/-! What is known, brought into bounds, and the commits of it: plain. -/
set_option linter.unusedSimpArgs false
set_option linter.unusedVariables false
namespace Go.Fw
open Go
def knE (p : I2 × Cel) : List Value := pc p.1 ++ p.2.cs
def wi (n lo hi : Int) : Int := lo + if n.tmod (hi - lo + 1) < 0 then n.tmod (hi - lo + 1) + (hi - lo + 1) else n.tmod (hi - lo + 1)
theorem wi_in {n lo hi : Int} (h : lo ≤ hi) : lo ≤ wi n lo hi ∧ wi n lo hi ≤ hi := by
  have hd : 0 < hi - lo + 1 := by omega
  have e1 := Int.tmod_lt_of_pos n hd
  have e2 : -(hi - lo + 1) < n.tmod (hi - lo + 1) := by
    have := Int.lt_tmod_of_pos n hd
    omega
  unfold wi
  split <;> omega
def plS (C : LogL) (p : I2 × Cel) : LogL := if lkC p.1 C ≠ none ∨ p.2.st ≠ 3 then C else C ++ [p]
/-- the commits of a row: the first of each instance -/
def plC (R : List (I2 × Cel)) : LogL := R.foldl plS []
theorem plC_succ {R : List (I2 × Cel)} {j : Nat} {p : I2 × Cel} (h : R[j]? = some p) : plC (R.take (j + 1)) = plS (plC (R.take j)) p := by
  unfold plC; rw [List.take_add_one, h, List.foldl_append]; rfl
end Go.Fw

/-! Rows turned about in place: swaps, rotations. -/
set_option linter.unusedSimpArgs false
set_option linter.unusedVariables false
namespace Go.Fw
open Go
section
variable {α : Type} [Inhabited α]
def swp (d : List α) (i j : Nat) : List α := (d.set i (d.getD j default)).set j (d.getD i default)
theorem swp_len (d : List α) (i j : Nat) : (swp d i j).length = d.length := by simp [swp]
theorem swp_get (d : List α) {i j : Nat} (hi : i < d.length) (hj : j < d.length) (k : Nat) : (swp d i j)[k]? = if k = j then d[i]? else if k = i then d[j]? else d[k]? := by
  unfold swp
  rw [List.getElem?_set, List.getElem?_set, List.getD_eq_getElem?_getD, List.getD_eq_getElem?_getD, List.getElem?_eq_getElem hi, List.getElem?_eq_getElem hj]
  simp only [Option.getD_some, List.length_set]
  by_cases h1 : k = j
  · subst h1; simp [hj]
  · rw [if_neg (fun e => h1 e.symm), if_neg h1]
    by_cases h2 : k = i
    · subst h2; simp [hi]
    · rw [if_neg (fun e => h2 e.symm), if_neg h2]
def swpR (d : List α) (a b : Nat) : Nat → List α
  | 0 => d
  | n + 1 => swp (swpR d a b n) (a + n) (b + n)
theorem swpR_len (d : List α) (a b : Nat) : ∀ n, (swpR d a b n).length = d.length
  | 0 => rfl
  | n + 1 => by rw [swpR, swp_len, swpR_len d a b n]
theorem swpR_get (d : List α) {a b : Nat} : ∀ n, a + n ≤ b → b + n ≤ d.length → ∀ k, (swpR d a b n)[k]? = if a ≤ k ∧ k < a + n then d[b + (k - a)]? else if b ≤ k ∧ k < b + n then d[a + (k - b)]? else d[k]?
  | 0, _, _, k => by rw [swpR, if_neg (by omega), if_neg (by omega)]
  | n + 1, h1, h2, k => by
    have ih := swpR_get d (a := a) (b := b) n (by omega) (by omega)
    have hl := swpR_len d a b n
    have hg := swp_get (swpR d a b n) (i := a + n) (j := b + n) (by omega) (by omega) k
    rw [swpR, hg]
    simp only [ih]
    repeat' split
    all_goals first
      | rfl
      | (exfalso; omega)
      | (congr 1; omega)
theorem app5_get {α : Type} (A X Z Y B : List α) (k : Nat) : (A ++ (X ++ (Z ++ (Y ++ B))))[k]? = if k < A.length then A[k]? else if k < A.length + X.length then X[k - A.length]? else if k < A.length + X.length + Z.length then Z[k - A.length - X.length]?
    else if k < A.length + X.length + Z.length + Y.length then Y[k - A.length - X.length - Z.length]? else B[k - A.length - X.length - Z.length - Y.length]? := by
  rw [List.getElem?_append]
  split
  · rfl
  · rw [List.getElem?_append]
    by_cases h : k < A.length + X.length
    · rw [if_pos (by omega), if_pos h]
    · rw [if_neg (by omega), if_neg h, List.getElem?_append]
      by_cases h : k < A.length + X.length + Z.length
      · rw [if_pos (by omega), if_pos h]
      · rw [if_neg (by omega), if_neg h, List.getElem?_append]
        by_cases h : k < A.length + X.length + Z.length + Y.length
        · rw [if_pos (by omega), if_pos h]
        · rw [if_neg (by omega), if_neg h]
/-- two stretches of one length change places -/
theorem swpR_app (A X Z Y B : List α) {n a b : Nat} (hx : X.length = n) (hy : Y.length = n) (ha : A.length = a) (hb : a + n + Z.length = b) : swpR (A ++ (X ++ (Z ++ (Y ++ B)))) a b n = A ++ (Y ++ (Z ++ (X ++ B))) := by
  apply List.ext_getElem?
  intro k
  rw [swpR_get _ n (by omega) (by simp; omega), app5_get, app5_get, app5_get, app5_get]
  subst ha
  subst hb
  subst hx
  repeat' split
  all_goals first
    | rfl
    | (exfalso; omega)
    | (congr 1; omega)
/-- the rotation's turns -/
def rotL (d : List α) (m : Nat) : Nat → Nat → Nat → List α
  | 0, i, _ => swpR d (m - i) m i
  | f + 1, i, j => if i = j then swpR d (m - i) m i else if j < i then rotL (swpR d (m - i) m j) m f (i - j) j else rotL (swpR d (m - i) (m + j - i) i) m f i (j - i)
theorem rotL_ok (m : Nat) : ∀ (f : Nat) (A X Y B : List α) (i j : Nat), X.length = i → Y.length = j → A.length + i = m → 0 < i → 0 < j → i + j ≤ f + 1 → rotL (A ++ (X ++ (Y ++ B))) m f i j = A ++ (Y ++ (X ++ B))
  | 0, A, X, Y, B, i, j, hx, hy, ha, h1, h2, hf => by omega
  | f + 1, A, X, Y, B, i, j, hx, hy, ha, h1, h2, hf => by
    rw [rotL]
    by_cases e : i = j
    · rw [if_pos e]
      have := swpR_app A X [] Y B (n := i) (a := m - i) (b := m) hx (by omega) (by omega) (by simp; omega)
      simpa using this
    · rw [if_neg e]
      by_cases h : j < i
      · rw [if_pos h]
        have hX : X = X.take j ++ X.drop j := (List.take_append_drop j X).symm
        have := swpR_app A (X.take j) (X.drop j) Y B (n := j) (a := m - i) (b := m) (by rw [List.length_take]; omega) hy (by omega) (by rw [List.length_drop]; omega)
        rw [show X ++ (Y ++ B) = X.take j ++ (X.drop j ++ (Y ++ B)) by rw [← List.append_assoc (X.take j), ← hX], this]
        have ih := rotL_ok m f (A ++ Y) (X.drop j) (X.take j) B (i - j) j (by rw [List.length_drop]; omega) (by rw [List.length_take]; omega) (by rw [List.length_append]; omega) (by omega) h2 (by omega)
        rw [List.append_assoc] at ih
        rw [ih, List.append_assoc, ← List.append_assoc (X.take j), ← hX]
      · rw [if_neg h]
        have hY : Y = Y.take (j - i) ++ Y.drop (j - i) := (List.take_append_drop _ Y).symm
        have := swpR_app A X (Y.take (j - i)) (Y.drop (j - i)) B (n := i) (a := m - i) (b := m + j - i) hx (by rw [List.length_drop]; omega) (by omega) (by rw [List.length_take]; omega)
        rw [show X ++ (Y ++ B) = X ++ (Y.take (j - i) ++ (Y.drop (j - i) ++ B)) by rw [← List.append_assoc (Y.take _), ← hY], this]
        have ih := rotL_ok m f A (Y.drop (j - i)) (Y.take (j - i)) (X ++ B) i (j - i) (by rw [List.length_drop]; omega) (by rw [List.length_take]; omega) ha h1 (by omega) (by omega)
        rw [ih, ← List.append_assoc (Y.take _), ← hY]
end
end Go.Fw

/-! Two sorted rows, parted and merged. -/
set_option linter.unusedVariables false
namespace Go.Fw
open Go
theorem take_at {α : Type} {l : List α} {s : Nat} {x : α} (h : x ∈ l.take s) : ∃ i, i < s ∧ l[i]? = some x := by
  obtain ⟨i, hi, e⟩ := List.getElem_of_mem h
  rw [List.length_take] at hi
  rw [List.getElem_take] at e
  exact ⟨i, by omega, by rw [List.getElem?_eq_getElem (by omega), e]⟩
theorem drop_at {α : Type} {l : List α} {s : Nat} {x : α} (h : x ∈ l.drop s) : ∃ i, s ≤ i ∧ l[i]? = some x := by
  obtain ⟨i, hi, e⟩ := List.getElem_of_mem h
  rw [List.length_drop] at hi
  rw [List.getElem_drop] at e
  exact ⟨s + i, by omega, by rw [List.getElem?_eq_getElem (by omega), e]⟩
theorem pw_at {α : Type} {R : α → α → Prop} {l : List α} (h : l.Pairwise R) {i j : Nat} {x y : α} (hij : i < j) (hx : l[i]? = some x) (hy : l[j]? = some y) : R x y := by
  obtain ⟨hi, rfl⟩ := List.getElem?_eq_some_iff.1 hx
  obtain ⟨hj, rfl⟩ := List.getElem?_eq_some_iff.1 hy
  exact List.pairwise_iff_getElem.1 h i j hi hj hij
section
variable {key : Nat → Int} {L R : List Nat}
theorem merge_parts (hL : L.Pairwise (ltK key)) (hR : R.Pairwise (ltK key)) {s t : Nat} (hUV : ∀ u v, 1 ≤ s → L[s - 1]? = some u → R[t]? = some v → ltK key u v) (hWW : ∀ w w', 1 ≤ t → R[t - 1]? = some w → L[s]? = some w' → ltK key w w')
    (hsl : s ≤ L.length) (htl : t ≤ R.length) : ∀ x ∈ L.take s ++ R.take t, ∀ y ∈ L.drop s ++ R.drop t, ltK key x y := by
  intro x hx y hy
  rcases List.mem_append.1 hx with hx | hx <;> rcases List.mem_append.1 hy with hy | hy
  · obtain ⟨i, hi, ei⟩ := take_at hx
    obtain ⟨j, hj, ej⟩ := drop_at hy
    exact pw_at hL (by omega) ei ej
  · obtain ⟨i, hi, ei⟩ := take_at hx
    obtain ⟨j, hj, ej⟩ := drop_at hy
    have hjl := (List.getElem?_eq_some_iff.1 ej).1
    have eu : L[s - 1]? = some L[s - 1] := List.getElem?_eq_getElem (by omega)
    have ev : R[t]? = some R[t] := List.getElem?_eq_getElem (by omega)
    have h := hUV _ _ (by omega) eu ev
    have h1 : x = L[s - 1] ∨ ltK key x L[s - 1] := by
      by_cases e : i = s - 1
      · subst e; rw [eu] at ei; exact .inl (Option.some.inj ei).symm
      · exact .inr (pw_at hL (by omega) ei eu)
    have h2 : y = R[t] ∨ ltK key R[t] y := by
      by_cases e : t = j
      · subst e; rw [ev] at ej; exact .inl (Option.some.inj ej).symm
      · exact .inr (pw_at hR (by omega) ev ej)
    rcases h1 with rfl | h1 <;> rcases h2 with rfl | h2
    · exact h
    · exact ltK_tr key _ _ _ h h2
    · exact ltK_tr key _ _ _ h1 h
    · exact ltK_tr key _ _ _ h1 (ltK_tr key _ _ _ h h2)
  · obtain ⟨i, hi, ei⟩ := take_at hx
    obtain ⟨j, hj, ej⟩ := drop_at hy
    have hjl := (List.getElem?_eq_some_iff.1 ej).1
    have eu : R[t - 1]? = some R[t - 1] := List.getElem?_eq_getElem (by omega)
    have ev : L[s]? = some L[s] := List.getElem?_eq_getElem (by omega)
    have h := hWW _ _ (by omega) eu ev
    have h1 : x = R[t - 1] ∨ ltK key x R[t - 1] := by
      by_cases e : i = t - 1
      · subst e; rw [eu] at ei; exact .inl (Option.some.inj ei).symm
      · exact .inr (pw_at hR (by omega) ei eu)
    have h2 : y = L[s] ∨ ltK key L[s] y := by
      by_cases e : s = j
      · subst e; rw [ev] at ej; exact .inl (Option.some.inj ej).symm
      · exact .inr (pw_at hL (by omega) ev ej)
    rcases h1 with rfl | h1 <;> rcases h2 with rfl | h2
    · exact h
    · exact ltK_tr key _ _ _ h h2
    · exact ltK_tr key _ _ _ h1 h
    · exact ltK_tr key _ _ _ h1 (ltK_tr key _ _ _ h h2)
  · obtain ⟨i, hi, ei⟩ := take_at hx
    obtain ⟨j, hj, ej⟩ := drop_at hy
    exact pw_at hR (by omega) ei ej
/-- a sorted row of these -/
abbrev SortOf (key : Nat → Int) (Z X : List Nat) : Prop := Z.Perm X ∧ Z.Pairwise (ltK key)
theorem merge_join {s t : Nat} {Z1 Z2 : List Nat} (h : ∀ x ∈ L.take s ++ R.take t, ∀ y ∈ L.drop s ++ R.drop t, ltK key x y) (h1 : SortOf key Z1 (L.take s ++ R.take t)) (h2 : SortOf key Z2 (L.drop s ++ R.drop t)) : SortOf key (Z1 ++ Z2) (L ++ R) := by
  refine ⟨(h1.1.append h2.1).trans ?_, List.pairwise_append.2 ⟨h1.2, h2.2, fun x hx y hy => h x (h1.1.mem_iff.1 hx) y (h2.1.mem_iff.1 hy)⟩⟩
  have e : L ++ R = (L.take s ++ L.drop s) ++ (R.take t ++ R.drop t) := by rw [List.take_append_drop, List.take_append_drop]
  rw [e]
  simp only [List.append_assoc]
  refine List.Perm.append_left _ ?_
  rw [← List.append_assoc, ← List.append_assoc]
  exact List.perm_append_comm.append_right _
end
end Go.Fw

/-! What is known of an instance, cell by cell. -/
set_option linter.unusedSimpArgs false
set_option linter.unusedVariables false
namespace Go.Fw
open Go
/-- a committed instance, as the plan's row holds it -/
def knc (C : LogL) (i : I2) : List Value := pc i ++ ((lkC i C).getD Cel.zero).cs
theorem knc_len (C : LogL) (i : I2) : (knc C i).length = 23 := rfl
theorem knc_bld (i : I2) (c : Cel) : ((spl 0 (pc i)
            [Value.int IntKind.i64 0, Value.int IntKind.i64 0, Value.int IntKind.i64 0, Value.int IntKind.i64 0,
              Value.int IntKind.i64 0, Value.int IntKind.i64 0, Value.int IntKind.i64 0, Value.int IntKind.i64 0,
              Value.int IntKind.i64 0, Value.int IntKind.i64 0, Value.string { data := #[] },
              Value.string { data := #[] }, Value.string { data := #[] }, Value.string { data := #[] },
              Value.int IntKind.i64 0, Value.int IntKind.i64 0, Value.int IntKind.i64 0, Value.int IntKind.i64 0,
              Value.int IntKind.i64 0, Value.int IntKind.i64 0, Value.int IntKind.i64 0, Value.int IntKind.i64 0,
              Value.bool false]).bind
        fun cs => lay cs [(2, 21)] [c.v]) = some (pc i ++ c.cs) := rfl
theorem knc_spl (i : I2) (c : Cel) : ((spl 0 (pc i ++ c.cs)
            [Value.int IntKind.i64 0, Value.int IntKind.i64 0, Value.int IntKind.i64 0, Value.int IntKind.i64 0,
              Value.int IntKind.i64 0, Value.int IntKind.i64 0, Value.int IntKind.i64 0, Value.int IntKind.i64 0,
              Value.int IntKind.i64 0, Value.int IntKind.i64 0, Value.string { data := #[] },
              Value.string { data := #[] }, Value.string { data := #[] }, Value.string { data := #[] },
              Value.int IntKind.i64 0, Value.int IntKind.i64 0, Value.int IntKind.i64 0, Value.int IntKind.i64 0,
              Value.int IntKind.i64 0, Value.int IntKind.i64 0, Value.int IntKind.i64 0, Value.int IntKind.i64 0,
              Value.bool false]).bind
        fun cs => some cs) = some (pc i ++ c.cs) := rfl
theorem knc_one (i : I2) (c : Cel) : (pc i ++ c.cs).all Value.oneCell' = true := rfl
theorem knc_ln (i : I2) (c : Cel) : (pc i ++ c.cs).length = 23 := rfl
theorem knE_take (k : I2) (c : Cel) : (knE (k, c)).take 23 = pc k ++ c.cs := rfl
theorem knE_tlen (k : I2) (c : Cel) : (pc k ++ c.cs).length = 23 := rfl
theorem knE_2 (k : I2) (c : Cel) : (pc k ++ c.cs)[2]? = some (.int .i64 c.st) := rfl
theorem knE_d21 (k : I2) (c : Cel) : (List.drop 2 (pc k ++ c.cs)).take 21 = c.cs := rfl
theorem pc_takeA (k : I2) (l : List Value) : (pc k ++ l).take 2 = pc k := rfl
theorem knE_take23 (p : I2 × Cel) : (knE p).take 23 = knE p := rfl
theorem knE_eq (x y : I2 × Cel) : leafEq [.i .i64, .i .i64, .i .i64, .i .i64, .i .i64, .i .i64, .i .i64, .i .i64, .i .i64, .i .i64, .s, .s, .s, .s, .i .i64, .i .i64, .i .i64, .i .i64, .i .i64, .i .i64, .i .i64, .i .i64, .b] (knE x) (knE y) = some (decide (x = y)) := by
  have h := leafEq_app [.i .i64, .i .i64] (k2 := [.i .i64, .i .i64, .i .i64, .i .i64, .i .i64, .i .i64, .i .i64, .i .i64, .s, .s, .s, .s, .i .i64, .i .i64, .i .i64, .i .i64, .i .i64, .i .i64, .i .i64, .i .i64, .b]) (x2 := x.2.cs) (y2 := y.2.cs) (pc_eq x.1 y.1)
  rw [Cel.eq] at h
  refine h.trans ?_
  obtain ⟨a, b⟩ := x
  obtain ⟨c, d⟩ := y
  simp [Prod.mk.injEq, Bool.decide_and]
theorem knE_len (p : I2 × Cel) : (knE p).length = 23 := rfl
theorem knE_oneP (p : I2 × Cel) : (knE p).all Value.oneCell' = true := rfl
theorem knE_g0 (p : I2 × Cel) : (knE p)[0]? = some (.int .i64 p.1.1) := rfl
theorem knE_g1 (p : I2 × Cel) : (knE p)[1]? = some (.int .i64 p.1.2) := rfl
theorem knE_g2 (p : I2 × Cel) : (knE p)[2]? = some (.int .i64 p.2.st) := rfl
theorem knE_s0 (p : I2 × Cel) (x : Int) : (knE p).set 0 (.int .i64 x) = knE ((x, p.1.2), p.2) := rfl
theorem knE_s1 (p : I2 × Cel) (x : Int) : (knE p).set 1 (.int .i64 x) = knE ((p.1.1, x), p.2) := rfl
theorem knE_s2 (p : I2 × Cel) (x : Int) : (knE p).set 2 (.int .i64 x) = knE (p.1, { p.2 with st := x }) := rfl
theorem knE_gd (p : I2 × Cel) (r : Nat) (h : r < 7) : (knE p)[15 + r]? = some (.int .i64 (p.2.att.deps.g r)) := by
  match r, h with
  | 0, _ | 1, _ | 2, _ | 3, _ | 4, _ | 5, _ | 6, _ => rfl
abbrev knU (p : I2 × Cel) (d : Dp) : I2 × Cel := (p.1, { p.2 with att := ⟨p.2.att.seq, d⟩ })
theorem knE_sd (p : I2 × Cel) (r : Nat) (x : Int) (h : r < 7) : (knE p).set (15 + r) (.int .i64 x) = knE (knU p (p.2.att.deps.up r x)) := by
  match r, h with
  | 0, _ | 1, _ | 2, _ | 3, _ | 4, _ | 5, _ | 6, _ => rfl
theorem knE_spl (p : I2 × Cel) : ((spl 0 (knE p)
            [Value.int IntKind.i64 0, Value.int IntKind.i64 0, Value.int IntKind.i64 0, Value.int IntKind.i64 0,
              Value.int IntKind.i64 0, Value.int IntKind.i64 0, Value.int IntKind.i64 0, Value.int IntKind.i64 0,
              Value.int IntKind.i64 0, Value.int IntKind.i64 0, Value.string { data := #[] },
              Value.string { data := #[] }, Value.string { data := #[] }, Value.string { data := #[] },
              Value.int IntKind.i64 0, Value.int IntKind.i64 0, Value.int IntKind.i64 0, Value.int IntKind.i64 0,
              Value.int IntKind.i64 0, Value.int IntKind.i64 0, Value.int IntKind.i64 0, Value.int IntKind.i64 0,
              Value.bool false]).bind
        fun cs => some cs) = some (knE p) := rfl
theorem knE_take2 (p : I2 × Cel) : (knE p).take 2 = pc p.1 := rfl
theorem knE_d15 (p : I2 × Cel) : ((knE p).drop 15).take 7 = dv p.2.att.deps := rfl
theorem knE_d221 (p : I2 × Cel) : (List.drop 2 (knE p)).take 21 = p.2.cs := rfl
attribute [go_sem] knE_d221 knE_take2 knE_d15 knE_len knE_oneP knE_g0 knE_g1 knE_g2 knE_s0 knE_s1 knE_s2 knE_gd knE_sd knE_take23 knE_spl
end Go.Fw

/-! The laws' plain parts. -/
set_option linter.unusedSimpArgs false
set_option linter.unusedVariables false
namespace Go.Fw
open Go
abbrev Kn := I2 × Cel
theorem lkC_snoc {k : I2} {p : Kn} : ∀ {C : LogL}, lkC k (C ++ [p]) = match lkC k C with | some c => some c | none => if p.1 = k then some p.2 else none
  | [] => by simp [lkC]
  | x :: r => by
    have := lkC_snoc (k := k) (p := p) (C := r)
    simp only [List.cons_append, lkC]
    split
    · rfl
    · exact this
/-- the commits of a row -/
structure PC (R : List Kn) (C : LogL) : Prop where
  some : ∀ k c, lkC k C = some c → (k, c) ∈ R ∧ c.st = 3
  none : ∀ k, lkC k C = none → ∀ c, (k, c) ∈ R → c.st ≠ 3
  len : C.length ≤ R.length
  nd : (keysC C).Nodup
theorem PC.step {R : List Kn} {C : LogL} (h : PC R C) (p : Kn) : PC (R ++ [p]) (plS C p) := by
  unfold plS
  by_cases hp : lkC p.1 C ≠ Option.none ∨ p.2.st ≠ 3
  · rw [if_pos hp]
    refine ⟨fun k c hc => ⟨List.mem_append_left _ (h.some k c hc).1, (h.some k c hc).2⟩, fun k hk c hc => ?_, by have := h.len; simp; omega, h.nd⟩
    rcases List.mem_append.1 hc with hc | hc
    · exact h.none k hk c hc
    · simp only [List.mem_singleton] at hc; subst hc
      rcases hp with hp | hp
      · exact absurd hk hp
      · exact hp
  · rw [if_neg hp]
    have h1 : lkC p.1 C = Option.none := Classical.byContradiction fun hn => hp (.inl hn)
    have h2 : p.2.st = 3 := Classical.byContradiction fun hn => hp (.inr hn)
    refine ⟨fun k c hc => ?_, fun k hk c hc => ?_, by have := h.len; simp; omega, ?_⟩
    · rw [lkC_snoc] at hc
      cases e : lkC k C with
      | some c' => rw [e] at hc; simp only [Option.some.injEq] at hc; subst hc; exact ⟨List.mem_append_left _ (h.some k c' e).1, (h.some k c' e).2⟩
      | none =>
        rw [e] at hc; simp only at hc
        split at hc
        · rename_i hk; cases hc; subst hk; exact ⟨List.mem_append_right _ (List.mem_singleton.2 rfl), h2⟩
        · cases hc
    · rw [lkC_snoc] at hk
      cases e : lkC k C with
      | some c' => rw [e] at hk; cases hk
      | none =>
        rw [e] at hk; simp only at hk
        split at hk
        · cases hk
        · rename_i hne
          rcases List.mem_append.1 hc with hc | hc
          · exact h.none k e c hc
          · simp only [List.mem_singleton] at hc; subst hc; exact absurd rfl hne
    · rw [show keysC (C ++ [p]) = keysC C ++ [p.1] by simp [keysC]]
      exact List.nodup_append.2 ⟨h.nd, by simp, fun a ha b hb => by
        simp only [List.mem_singleton] at hb; subst hb; rintro rfl; exact (lkC_none.1 h1) ha⟩
theorem foldl_snoc_ind {α β : Type} {f : β → α → β} {b0 : β} {P : List α → β → Prop} (h0 : P [] b0) (hs : ∀ l b x, P l b → P (l ++ [x]) (f b x)) : ∀ l : List α, P l (l.foldl f b0) := by
  have key : ∀ (l r : List α) (b : β), P l b → P (l ++ r) (r.foldl f b) := fun l r => by
    induction r generalizing l with
    | nil => intro b h; simpa using h
    | cons x r ih =>
      intro b h
      have := ih (l ++ [x]) _ (hs l b x h)
      simpa using this
  intro l
  simpa using key [] l b0 h0
theorem plC_PC (R : List Kn) : PC R (plC R) := foldl_snoc_ind (P := fun R C => PC R C) ⟨by simp [lkC], by simp, by simp, by simp [keysC]⟩ (fun l b x h => h.step x) R
/-! low slots -/
structure LowK (p : Kn) : Prop where
  r : 0 ≤ p.1.1 ∧ p.1.1 ≤ 3
  s : 1 ≤ p.1.2 ∧ p.1.2 ≤ 40
  d : ∀ r, r < 7 → 0 ≤ p.2.att.deps.g r ∧ p.2.att.deps.g r ≤ 40
def fewD (d : Dp) : Dp := fun r => if r.val > 3 then 0 else wi (d r) 0 9
def fewK (p : Kn) : Kn := ((wi p.1.1 0 3, wi p.1.2 1 8), { p.2 with att := ⟨p.2.att.seq, fewD p.2.att.deps⟩ })
def fewL (l : List Kn) (n : Nat) : List Kn := (l.take n).map fewK
theorem fewK_low (p : Kn) : LowK (fewK p) := ⟨wi_in (by omega), by have := wi_in (n := p.1.2) (lo := 1) (hi := 8) (by omega); simp only [fewK]; omega, fun r hr => by
  simp only [fewK, Dp.g_lt _ hr, fewD]
  split
  · omega
  · have := wi_in (n := p.2.att.deps ⟨r, hr⟩) (lo := 0) (hi := 9) (by omega); omega⟩
theorem fewL_low {l : List Kn} {n : Nat} : ∀ p ∈ fewL l n, LowK p := fun p hp => by
  obtain ⟨q, _, rfl⟩ := List.mem_map.1 hp; exact fewK_low q
theorem fewL_len (l : List Kn) (n : Nat) : (fewL l n).length ≤ n := by simp [fewL]; omega
structure LowC (C : LogL) : Prop where
  v : ∀ i, lkC i C ≠ none → (0 ≤ i.1 ∧ i.1 ≤ 3) ∧ 1 ≤ i.2 ∧ i.2 ≤ 40
  sm : ∀ p ∈ C, ∀ r, r < 7 → 0 ≤ p.2.att.deps.g r ∧ p.2.att.deps.g r ≤ 1000
theorem mem_lkC {C : LogL} (hn : (keysC C).Nodup) {p : Kn} (h : p ∈ C) : lkC p.1 C = some p.2 := lkC_of hn h
theorem plC_low {R : List Kn} (h : ∀ p ∈ R, LowK p) : LowC (plC R) := by
  have P := plC_PC R
  refine ⟨fun i hi => ?_, fun p hp r hr => ?_⟩
  · obtain ⟨c, hc⟩ := Option.ne_none_iff_exists'.1 hi
    have := h _ (P.some i c hc).1
    exact ⟨this.r, this.s⟩
  · have := (h _ (P.some p.1 p.2 (mem_lkC P.nd hp)).1).d r hr
    exact ⟨this.1, Int.le_trans this.2 (by omega)⟩
theorem LowC.key {C : LogL} (h : LowC C) : ∀ i ∈ keysC C, 0 ≤ i.2 ∧ i.2 ≤ 1000 := fun i hi => by
  have := h.v i (fun e => lkC_none.1 e hi); omega
theorem LowC.V2 {C : LogL} (h : LowC C) {i : I2} (hi : lkC i C ≠ none) : V2 i := by
  have := h.v i hi; exact ⟨by omega, by omega, by omega⟩
/-! done, by a row of instances -/
theorem upD_snoc (d : Dp) (l : List I2) (i : I2) : upD d (l ++ [i]) = Dp.up (upD d l) i.1.toNat (max ((upD d l).g i.1.toNat) i.2) := by
  unfold upD; rw [List.foldl_append]; rfl
theorem Dp.zero_g (r : Nat) : Dp.zero.g r = 0 := by unfold Dp.g; split <;> rfl
/-- twice -/
theorem twice_plain {C : LogL} (hC : LowC C) (d0 : Dp) : (∀ i ∈ (planL C d0).1, (0 ≤ i.1 ∧ i.1 < 7) ∧ d0.g i.1.toNat < i.2) ∧ planL C (upD d0 (planL C d0).1) = ([], (planL C d0).2) := by
  obtain ⟨done, F⟩ := planL_fin C d0
  refine ⟨fun i hi => ?_, ?_⟩
  · have := (F.pi.mem i).1 hi; exact ⟨⟨this.1, this.2.1⟩, this.2.2.1⟩
  · rw [F.pi.upD_eq]; exact planL_again F
theorem plan_bd {C : LogL} (hC : LowC C) {d0 : Dp} (hd : ∀ r, r < 7 → 0 ≤ d0.g r ∧ d0.g r ≤ 1000) : ∀ r, r < 7 → 0 ≤ (upD d0 (planL C d0).1).g r ∧ (upD d0 (planL C d0).1).g r ≤ 1000 := by
  obtain ⟨done, F⟩ := planL_fin C d0
  rw [F.pi.upD_eq]
  intro r hr
  have h1 := F.pi.ge r hr
  have h2 := hd r hr
  refine ⟨by omega, ?_⟩
  by_cases e : done.g r ≤ d0.g r
  · omega
  · have hm := (F.pi.mem ((r : Int), done.g r)).2 ⟨by simp, by simp; omega, by simp; omega, by simp⟩
    have := hC.v _ (F.pi.inC _ hm)
    simp only at this
    omega
theorem plan_len (C : LogL) (d0 : Dp) : (planL C d0).1.length ≤ C.length := by
  obtain ⟨done, F⟩ := planL_fin C d0
  exact F.pi.len
theorem foldl_mis (C : LogL) : ∀ (l : List Nat) (s : PS), (l.foldl (stepP C) s).mis.length ≤ s.mis.length + l.length
  | [], s => by simp
  | r :: l, s => by
    have h1 : (stepP C s r).mis.length ≤ s.mis.length + 1 := by
      have ha : ∀ k, (addI k s.mis).length ≤ s.mis.length + 1 := fun k => by unfold addI; split <;> simp
      unfold stepP
      split
      · split
        · exact ha _
        · omega
      · split
        · exact ha _
        · simp
    have := foldl_mis C l (stepP C s r)
    simp only [List.foldl_cons, List.length_cons]; omega
theorem plan_mis (C : LogL) (d0 : Dp) : (planL C d0).2.length ≤ 7 := by
  obtain ⟨done, F⟩ := planL_fin C d0
  rw [F.last.2, (sortX_perm _ _).length_eq]
  have := foldl_mis C (List.range 7) ⟨done, (planL C d0).1, [], false⟩
  simpa [roundP] using this
/-- whole -/
theorem whole_plain {C : LogL} (hC : LowC C) : (planL C Dp.zero).1.Nodup ∧ (∀ i ∈ (planL C Dp.zero).1, (0 ≤ i.1 ∧ i.1 < 7) ∧ lkC i C ≠ none ∧ 1 ≤ i.2) ∧
    ((planL C Dp.zero).1.length : Int) = (upD Dp.zero (planL C Dp.zero).1).g 0 + (upD Dp.zero (planL C Dp.zero).1).g 1 + (upD Dp.zero (planL C Dp.zero).1).g 2 + (upD Dp.zero (planL C Dp.zero).1).g 3 + (upD Dp.zero (planL C Dp.zero).1).g 4 + (upD Dp.zero (planL C Dp.zero).1).g 5 + (upD Dp.zero (planL C Dp.zero).1).g 6 ∧
    (∀ i ∈ (planL C Dp.zero).1, ∀ r, r < 7 → (attC C i).deps.g r ≤ (upD Dp.zero (planL C Dp.zero).1).g r) ∧ ∀ k ∈ (planL C Dp.zero).2, lkC k C = none := by
  obtain ⟨done, F, P⟩ := planP_po (C := C) (A := attC C) (out1 := []) (f := C.length + 1) (fun i hi => ⟨rfl, hC.V2 hi⟩) (PI.start C Dp.zero) (by simp) (PO.start (attC C))
  have F : Fin C Dp.zero done (planL C Dp.zero).1 (planL C Dp.zero).2 := F
  have P : PO (attC C) done ([] ++ (planL C Dp.zero).1) := P
  rw [List.nil_append] at P
  rw [F.pi.upD_eq]
  refine ⟨F.pi.nd, fun i hi => ?_, F.pi.count, fun i hi r hr => ?_, F.mis⟩
  · have := P.v i hi; exact ⟨⟨this.1.1, this.1.2.1⟩, F.pi.inC i hi, this.1.2.2⟩
  · have h1 := P.v i hi
    have := P.cl i h1.1 h1.2 r hr
    unfold upto at this
    split at this <;> omega
end Go.Fw

/-! The one order: plain. -/
set_option linter.unusedSimpArgs false
set_option linter.unusedVariables false
namespace Go.Fw
open Go
def com (p : Kn) : Kn := (p.1, { p.2 with st := 3 })
def ownS (own : List Kn) (p : Kn) : List Kn := if p.1 ∈ own.map Prod.fst then own else own ++ [com p]
def ownL (l : List Kn) : List Kn := l.foldl ownS []
structure OwnL (l own : List Kn) : Prop where
  nd : (own.map Prod.fst).Nodup
  st : ∀ p ∈ own, p.2.st = 3 ∧ ∃ q ∈ l, p = com q
  len : own.length ≤ l.length
theorem ownL_ok (l : List Kn) : OwnL l (ownL l) := foldl_snoc_ind (P := fun l o => OwnL l o) ⟨by simp, by simp, by simp⟩ (fun l b x h => by
  unfold ownS
  split
  · exact ⟨h.nd, fun p hp => ⟨(h.st p hp).1, by obtain ⟨q, hq, e⟩ := (h.st p hp).2; exact ⟨q, List.mem_append_left _ hq, e⟩⟩, by have := h.len; simp; omega⟩
  · rename_i hx
    refine ⟨?_, fun p hp => ?_, by have := h.len; simp; omega⟩
    · rw [List.map_append]
      exact List.nodup_append.2 ⟨h.nd, by simp, fun a ha b hb => by
        simp only [List.map_cons, List.map_nil, List.mem_singleton] at hb; subst hb; rintro rfl; exact hx ha⟩
    · rcases List.mem_append.1 hp with hp | hp
      · exact ⟨(h.st p hp).1, by obtain ⟨q, hq, e⟩ := (h.st p hp).2; exact ⟨q, List.mem_append_left _ hq, e⟩⟩
      · simp only [List.mem_singleton] at hp; subst hp; exact ⟨rfl, x, by simp, rfl⟩) l
theorem com_low {p : Kn} (h : LowK p) : LowK (com p) := ⟨h.r, h.s, h.d⟩
theorem ownL_low {l : List Kn} (h : ∀ p ∈ l, LowK p) : ∀ p ∈ ownL l, LowK p := fun p hp => by
  obtain ⟨q, hq, rfl⟩ := ((ownL_ok l).st p hp).2
  exact com_low (h q hq)
/-- commits once each are their own commits -/
theorem plC_self {l : List Kn} (hn : (l.map Prod.fst).Nodup) (h3 : ∀ p ∈ l, p.2.st = 3) : plC l = l := by
  have key : ∀ (r a : List Kn), ((a ++ r).map Prod.fst).Nodup → (∀ p ∈ r, p.2.st = 3) → r.foldl plS a = a ++ r := fun r => by
    induction r with
    | nil => intro a _ _; simp
    | cons x r ih =>
      intro a hn h3
      have hx : lkC x.1 a = none := lkC_none.2 fun hk => by
        rw [List.map_append] at hn
        exact (List.nodup_append.1 hn).2.2 x.1 hk x.1 (by simp) rfl
      have e : plS a x = a ++ [x] := by unfold plS; rw [if_neg (by simp [hx, h3 x (List.mem_cons_self ..)])]
      rw [List.foldl_cons, e, ih (a ++ [x]) (by simpa using hn) (fun p hp => h3 p (List.mem_cons_of_mem _ hp))]
      simp
  simpa [plC] using key l [] (by simpa using hn) h3
/-- a part of what is known -/
structure Sub (N O : List Kn) : Prop where
  sub : N.Sublist O
theorem lkC_sub {N O : LogL} (h : N.Sublist O) (hn : (keysC O).Nodup) {i : I2} (hi : lkC i N ≠ none) : lkC i N = lkC i O := by
  obtain ⟨c, hc⟩ := Option.ne_none_iff_exists'.1 hi
  rw [hc]
  exact (lkC_of hn (h.subset (lkC_mem hc))).symm
/-- all that was done so far: some runs behind each other -/
structure Ph (O : LogL) (done : Dp) (parts : List I2) : Prop where
  pi : PI O Dp.zero done parts
  po : PO (attC O) done parts
theorem Ph.start (O : LogL) : Ph O Dp.zero [] := ⟨PI.start O Dp.zero, PO.start _⟩
theorem Ph.step {O N : LogL} {done : Dp} {parts : List I2} (h : Ph O done parts) (hO : LowC O) (hn : (keysC O).Nodup) (hs : N.Sublist O) :
    ∃ done', Fin N done done' (planL N done).1 (planL N done).2 ∧ Ph O done' (parts ++ (planL N done).1) ∧ upD done (planL N done).1 = done' := by
  have hN : ∀ i, lkC i N ≠ none → attC N i = attC O i ∧ V2 i := fun i hi => by
    have e := lkC_sub hs hn hi
    refine ⟨by unfold attC; rw [e], hO.V2 (by rw [← e]; exact hi)⟩
  obtain ⟨done', F, P⟩ := planP_po (C := N) (A := attC O) (out1 := parts) (f := N.length + 1) hN (PI.start N done) (by simp) (by simpa using h.po)
  have F : Fin N done done' (planL N done).1 (planL N done).2 := F
  have P : PO (attC O) done' (parts ++ (planL N done).1) := P
  refine ⟨done', F, ⟨?_, P⟩, F.pi.upD_eq⟩
  generalize (planL N done).1 = p at *
  refine ⟨?_, fun i hi => ?_, fun i => ?_, fun r hr => Int.le_trans (h.pi.ge r hr) (F.pi.ge r hr)⟩
  · refine List.nodup_append.2 ⟨h.pi.nd, F.pi.nd, fun a ha b hb => ?_⟩
    rintro rfl
    have h1 := (h.pi.mem a).1 ha
    have h2 := (F.pi.mem a).1 hb
    omega
  · rcases List.mem_append.1 hi with hi | hi
    · exact h.pi.inC i hi
    · rw [← lkC_sub hs hn (F.pi.inC i hi)]; exact F.pi.inC i hi
  · rw [List.mem_append, h.pi.mem, F.pi.mem]
    constructor
    · rintro (⟨h1, h2, h3, h4⟩ | ⟨h1, h2, h3, h4⟩)
      · exact ⟨h1, h2, h3, Int.le_trans h4 (F.pi.ge _ (by omega))⟩
      · exact ⟨h1, h2, Int.lt_of_le_of_lt (h.pi.ge _ (by omega)) h3, h4⟩
    · rintro ⟨h1, h2, h3, h4⟩
      by_cases e : i.2 ≤ done.g i.1.toNat
      · exact .inl ⟨h1, h2, h3, e⟩
      · exact .inr ⟨h1, h2, by omega, h4⟩
theorem Ph.bd {O : LogL} {done : Dp} {parts : List I2} (h : Ph O done parts) (hO : LowC O) (r : Nat) (hr : r < 7) : 0 ≤ done.g r ∧ done.g r ≤ 1000 := by
  have h0 := h.pi.ge r hr
  rw [Dp.zero_g] at h0
  refine ⟨h0, ?_⟩
  by_cases e : done.g r = 0
  · omega
  · have hm := (h.pi.mem ((r : Int), done.g r)).2 ⟨by simp, by simp; omega, by simp [Dp.zero_g]; omega, by simp⟩
    have := hO.v _ (h.pi.inC _ hm)
    simp only at this
    omega
/-- two ends of all are one -/
theorem Ph.le {O : LogL} {d1 d2 d0 : Dp} {a b o m : List I2} (h1 : Ph O d1 a) (h2 : Ph O d2 b) (F : Fin O d0 d2 o m) (hO : LowC O) : ∀ r, r < 7 → d1.g r ≤ d2.g r := by
  refine F.most (A := attC O) (fun _ _ => rfl) (fun r hr => (h2.bd hO r hr).1) h1.po.cl fun i hv hi => ?_
  exact h1.pi.inC i ((h1.pi.mem i).2 ⟨hv.1, hv.2.1, by rw [Dp.zero_g]; have := hv.2.2; omega, hi⟩)
theorem Ph.same {O : LogL} {d : Dp} {a b : List I2} (h1 : Ph O d a) (h2 : Ph O d b) : a.length = b.length ∧ ∀ i, i ∈ a ↔ i ∈ b := by
  have hm : ∀ i, i ∈ a ↔ i ∈ b := fun i => by rw [h1.pi.mem, h2.pi.mem]
  exact ⟨Nat.le_antisymm (nodup_le h1.pi.nd fun x hx => (hm x).1 hx) (nodup_le h2.pi.nd fun x hx => (hm x).2 hx), hm⟩
abbrev tied (O : LogL) (a b : I2) : Prop := (rightI b ∧ b.2 ≤ (attC O a).deps.g b.1.toNat) ∨ (rightI a ∧ a.2 ≤ (attC O b).deps.g a.1.toNat) ∨ a.1 = b.1
theorem tied_RA {O : LogL} {a b : I2} (ha : V2 a) (hb : V2 b) (hne : a ≠ b) (h : tied O a b) : RA (attC O) a b ∨ RA (attC O) b a := by
  rcases h with h | h | h
  · exact .inl (.step ⟨hb, hne, .inl h⟩ (.refl _))
  · exact .inr (.step ⟨ha, fun e => hne e.symm, .inl h⟩ (.refl _))
  · have : a.2 ≠ b.2 := fun e => hne (Prod.ext h e)
    by_cases hlt : b.2 < a.2
    · exact .inl (.step ⟨hb, hne, .inr ⟨h.symm, hlt⟩⟩ (.refl _))
    · exact .inr (.step ⟨ha, fun e => hne e.symm, .inr ⟨h, by omega⟩⟩ (.refl _))
theorem Ph.order {O : LogL} {d : Dp} {a b : List I2} (h1 : Ph O d a) (h2 : Ph O d b) {k i p q : Nat} (hk : k < i) (hi : i < a.length) (ht : tied O a[k] a[i]) (hp : p < b.length) (hq : q < b.length) (ep : b[p] = a[k]) (eq : b[q] = a[i]) : p ≤ q := by
  have hne : a[k] ≠ a[i] := List.pairwise_iff_getElem.1 h1.pi.nd k i (by omega) hi hk
  have v1 := (h1.po.v a[k] (List.getElem_mem _)).1
  have v2 := (h1.po.v a[i] (List.getElem_mem _)).1
  exact two_orders h1.po.ord h2.po.ord (by omega) hi hk hne (tied_RA v1 v2 hne ht) hp hq ep eq
end Go.Fw

/-! The one order: rows and places. -/
set_option linter.unusedSimpArgs false
set_option linter.unusedVariables false
namespace Go.Fw
open Go
/-- where an instance stands in a row, or -1 -/
def placeL (k : I2) : List I2 → Int → Int
  | [], _ => -1
  | x :: r, i => if x = k then i else placeL k r (i + 1)
theorem placeL_ok (k : I2) : ∀ (l : List I2) (i : Int), (k ∉ l ∧ placeL k l i = -1) ∨ ∃ j, ∃ h : j < l.length, l[j] = k ∧ placeL k l i = i + j
  | [], i => .inl ⟨by simp, rfl⟩
  | x :: r, i => by
    simp only [placeL]
    by_cases e : x = k
    · exact .inr ⟨0, by simp, by simpa using e, by rw [if_pos e]; omega⟩
    · rw [if_neg e]
      rcases placeL_ok k r (i + 1) with ⟨h1, h2⟩ | ⟨j, h1, h2, h3⟩
      · exact .inl ⟨by simp only [List.mem_cons, not_or]; exact ⟨fun h => e h.symm, h1⟩, h2⟩
      · exact .inr ⟨j + 1, by simp; omega, by simpa using h2, by rw [h3]; omega⟩
theorem placeL_neg (k : I2) (l : List I2) : placeL k l 0 < 0 ↔ k ∉ l := by
  rcases placeL_ok k l 0 with ⟨h1, h2⟩ | ⟨j, h1, h2, h3⟩
  · rw [h2]; exact ⟨fun _ => h1, fun _ => by omega⟩
  · rw [h3]; exact ⟨fun h => by omega, fun h => absurd (h2 ▸ List.getElem_mem h1) h⟩
theorem ownL_succ {l : List Kn} {j : Nat} {p : Kn} (h : l[j]? = some p) : ownL (l.take (j + 1)) = ownS (ownL (l.take j)) p := by
  unfold ownL; rw [List.take_add_one, h, List.foldl_append]; rfl
/-- the row, the first j of it committed -/
def comJ (l : List Kn) (j : Nat) : List Kn := (l.take j).map com ++ l.drop j
theorem comJ_0 (l : List Kn) : comJ l 0 = l := by simp [comJ]
theorem comJ_len (l : List Kn) (j : Nat) : (comJ l j).length = l.length := by simp [comJ]; omega
theorem comJ_at {l : List Kn} {j : Nat} {p : Kn} (h : l[j]? = some p) : (comJ l j)[j]? = some p := by
  have hj := (List.getElem?_eq_some_iff.1 h).1
  unfold comJ
  rw [List.getElem?_append_right (by simp; omega)]
  simp only [List.length_map, List.length_take, Nat.min_eq_left (Nat.le_of_lt hj), List.getElem?_drop, Nat.sub_self, Nat.add_zero]
  exact h
theorem comJ_set {l : List Kn} {j : Nat} {p : Kn} (h : l[j]? = some p) : (comJ l j).set j (com p) = comJ l (j + 1) := by
  have hj := (List.getElem?_eq_some_iff.1 h).1
  have hlen : ((l.take j).map com).length = j := by simp; omega
  unfold comJ
  rw [List.set_append_right _ _ (by omega), hlen, Nat.sub_self, List.drop_eq_getElem_cons hj, List.set_cons_zero, List.take_add_one, h]
  simp
/-- who is known at a time -/
abbrev condT (T : List Int) (t i : Nat) : Prop := t = 3 ∨ (i < T.length ∧ wi (T.getD i 0) 0 3 ≤ t)
def nowL (O : List Kn) (T : List Int) (t : Nat) : Nat → List Kn
  | 0 => []
  | i + 1 => nowL O T t i ++ if condT T t i then (O[i]?).toList else []
theorem nowL_sub (O : List Kn) (T : List Int) (t : Nat) : ∀ i, (nowL O T t i).Sublist (O.take i)
  | 0 => by simp [nowL]
  | i + 1 => by
    rw [nowL, List.take_add_one]
    refine (nowL_sub O T t i).append ?_
    split
    · exact List.Sublist.refl _
    · exact List.nil_sublist _
theorem nowL_3 (O : List Kn) (T : List Int) : ∀ i, nowL O T 3 i = O.take i
  | 0 => by simp [nowL]
  | i + 1 => by rw [nowL, List.take_add_one, nowL_3 O T i, if_pos (.inl rfl)]
theorem nowL_len (O : List Kn) (T : List Int) (t i : Nat) : (nowL O T t i).length ≤ O.length := Nat.le_trans (nowL_sub O T t i).length_le (by simp; omega)
theorem sub_keys {N O : List Kn} (h : N.Sublist O) (hn : (O.map Prod.fst).Nodup) : (N.map Prod.fst).Nodup := (h.map Prod.fst).nodup hn
/-- a part's plan, a step of the phases -/
theorem phase {O N : List Kn} {done : Dp} {parts : List I2} (hl : ∀ p ∈ O, LowK p) (hn : (O.map Prod.fst).Nodup) (h3 : ∀ p ∈ O, p.2.st = 3) (hs : N.Sublist O) (h : Ph O done parts) :
    ∃ done', Fin N done done' (planL N done).1 (planL N done).2 ∧ Ph O done' (parts ++ (planL N done).1) ∧ upD done (planL N done).1 = done' := by
  have := plC_low hl
  rw [plC_self hn h3] at this
  exact h.step this hn hs
end Go.Fw

/-! The document's order of a closure, in plain words. -/
set_option linter.unusedSimpArgs false
set_option linter.unusedVariables false
namespace Go.Fw
open Go
def kmap (C : LogL) (l : List I2) : List Kn := l.map fun i => (i, (lkC i C).getD Cel.zero)
abbrev kel (C : LogL) (i : I2) : Kn := (i, (lkC i C).getD Cel.zero)
theorem kmap_len (C : LogL) (l : List I2) : (kmap C l).length = l.length := by simp [kmap]
theorem kmap_get (C : LogL) (l : List I2) (i : Nat) : (kmap C l)[i]? = (l[i]?).map fun i => (i, (lkC i C).getD Cel.zero) := by simp [kmap]
theorem kmap_fst (C : LogL) (l : List I2) : (kmap C l).map Prod.fst = l := by simp [kmap, Function.comp_def]
theorem kmap_of {C : LogL} {row : List I2} {S : List Kn} (h : S.Perm (kmap C row)) : S = kmap C (S.map Prod.fst) := by
  have key : ∀ p ∈ S, p = kel C p.1 := fun p hp => by
    obtain ⟨i, _, rfl⟩ := List.mem_map.1 (h.mem_iff.1 hp); rfl
  clear h
  induction S with
  | nil => rfl
  | cons p r ih =>
    have h1 := ih fun q hq => key q (List.mem_cons_of_mem _ hq)
    have h2 := key p (List.mem_cons_self ..)
    show p :: r = kel C p.1 :: kmap C (r.map Prod.fst)
    rw [← h2, ← h1]
def ltA (p q : Kn) : Prop := lt2 p.1 q.1
instance (p q : Kn) : Decidable (ltA p q) := by unfold ltA; exact inferInstance
def belowP (a b : Kn) : Prop := a.2.att.seq < b.2.att.seq ∨ (a.2.att.seq = b.2.att.seq ∧ lt2 a.1 b.1)
instance (a b : Kn) : Decidable (belowP a b) := by unfold belowP; exact inferInstance
/-- an order of what is known -/
structure Ord (lt : Kn → Kn → Prop) : Prop where
  irr : ∀ a, ¬ lt a a
  tr : ∀ a b c, lt a b → lt b c → lt a c
  tot : ∀ a b : Kn, a.1 ≠ b.1 → lt a b ∨ lt b a
theorem ord_A : Ord ltA := ⟨fun a => lt2_irr _, fun a b c => lt2_tr _ _ _, fun a b h => lt2_tot _ _ h⟩
theorem ord_B : Ord belowP := ⟨fun a h => by
  rcases h with h | ⟨_, h⟩
  · omega
  · exact lt2_irr _ h, fun a b c h1 h2 => by
  rcases h1 with h1 | ⟨e1, h1⟩ <;> rcases h2 with h2 | ⟨e2, h2⟩
  · exact .inl (by omega)
  · exact .inl (by omega)
  · exact .inl (by omega)
  · exact .inr ⟨by omega, lt2_tr _ _ _ h1 h2⟩, fun a b h => by
  rcases lt2_tot _ _ h with h | h <;> unfold belowP <;> by_cases e : a.2.att.seq = b.2.att.seq
  · exact .inl (.inr ⟨e, h⟩)
  · omega
  · exact .inr (.inr ⟨e.symm, h⟩)
  · omega⟩
/-- x under way into a sorted row -/
structure Ins (lt : Kn → Kn → Prop) (O : List Kn) (i k : Nat) (P Q : List Kn) (x : Kn) : Prop where
  so : (P ++ Q).Pairwise lt
  pm : (P ++ Q).Perm (O.take i)
  at_ : O[i]? = some x
  len : P.length = k
  big : ∀ q ∈ Q, lt x q
abbrev insL (O : List Kn) (i : Nat) (P Q : List Kn) (x : Kn) : List Kn := P ++ x :: (Q ++ O.drop (i + 1))
theorem Ins.lenQ {lt : Kn → Kn → Prop} {O : List Kn} {i k : Nat} {P Q : List Kn} {x : Kn} (h : Ins lt O i k P Q x) : (insL O i P Q x).length = O.length := by
  have h1 := h.pm.length_eq
  have h2 := (List.getElem?_eq_some_iff.1 h.at_).1
  simp at h1 ⊢; omega
theorem Ins.start {lt : Kn → Kn → Prop} {O P : List Kn} {i : Nat} {x : Kn} (hs : P.Pairwise lt) (hp : P.Perm (O.take i)) (hx : O[i]? = some x) : Ins lt O i i P [] x := by
  have h2 := (List.getElem?_eq_some_iff.1 hx).1
  exact ⟨by simpa using hs, by simpa using hp, hx, by rw [hp.length_eq]; simp; omega, by simp⟩
theorem ins_at {O P Q : List Kn} {i : Nat} {x y : Kn} : (insL O i (P ++ [y]) Q x)[P.length + 1]? = some x ∧ (insL O i (P ++ [y]) Q x)[P.length]? = some y ∧ ((insL O i (P ++ [y]) Q x).set (P.length + 1) y).set P.length x = insL O i P (y :: Q) x := by
  have e : insL O i (P ++ [y]) Q x = P ++ (y :: x :: (Q ++ O.drop (i + 1))) := by simp
  rw [e]
  refine ⟨by rw [List.getElem?_append_right (by omega)]; simp, by rw [List.getElem?_append_right (by omega)]; simp, ?_⟩
  rw [List.set_append_right _ _ (by omega), show P.length + 1 - P.length = 1 by omega, List.set_cons_succ, List.set_cons_zero, List.set_append_right _ _ (by omega), Nat.sub_self, List.set_cons_zero]
  simp
theorem Ins.swap {lt : Kn → Kn → Prop} {O : List Kn} {i k : Nat} {P Q : List Kn} {x y : Kn} (h : Ins lt O i (k + 1) (P ++ [y]) Q x) (hlt : lt x y) : Ins lt O i k P (y :: Q) x :=
  ⟨by simpa using h.so, by simpa using h.pm, h.at_, by have := h.len; simp at this; exact this, fun q hq => by
    rcases List.mem_cons.1 hq with rfl | hq
    · exact hlt
    · exact h.big q hq⟩
/-- it has come to its place -/
theorem Ins.stop {lt : Kn → Kn → Prop} {O : List Kn} {i k : Nat} {P Q : List Kn} {x : Kn} (h : Ins lt O i k P Q x) (ho : Ord lt) (hn : (O.map Prod.fst).Nodup) (hl : ∀ y ∈ P.getLast?, ¬ lt x y) :
    (P ++ x :: Q).Pairwise lt ∧ (P ++ x :: Q).Perm (O.take (i + 1)) := by
  have hpm : (P ++ x :: Q).Perm (O.take (i + 1)) := by
    rw [List.take_add_one, h.at_]
    exact List.perm_middle.trans ((List.perm_append_singleton x (P ++ Q)).symm.trans (h.pm.append_right [x]))
  refine ⟨?_, hpm⟩
  obtain ⟨s1, s2, s3⟩ := List.pairwise_append.1 h.so
  have hnd : ((P ++ x :: Q).map Prod.fst).Nodup := (hpm.map Prod.fst).nodup_iff.2 (((List.take_sublist (i + 1) O).map Prod.fst).nodup hn)
  have hP : ∀ y ∈ P, lt y x := by
    rcases List.eq_nil_or_concat P with rfl | ⟨P0, y, rfl⟩
    · simp
    · rw [List.concat_eq_append] at *
      have hyx : lt y x := by
        have h1 := hl y (by simp)
        have hne : x.1 ≠ y.1 := by
          rw [List.map_append, List.nodup_append] at hnd
          intro e
          exact hnd.2.2 y.1 (by simp) x.1 (by simp) e.symm
        exact (ho.tot x y hne).resolve_left h1
      intro z hz
      rcases List.mem_append.1 hz with hz | hz
      · exact ho.tr _ _ _ ((List.pairwise_append.1 s1).2.2 z hz y (by simp)) hyx
      · simp only [List.mem_singleton] at hz; subst hz; exact hyx
  refine List.pairwise_append.2 ⟨s1, List.pairwise_cons.2 ⟨h.big, s2⟩, fun a ha b hb => ?_⟩
  rcases List.mem_cons.1 hb with e | hb
  · rw [e]; exact hP a ha
  · exact s3 a ha b hb
theorem Ins.next {O : List Kn} {i : Nat} {P Q : List Kn} {x : Kn} : insL O i P Q x = (P ++ x :: Q) ++ O.drop (i + 1) := by simp
theorem asc_sortR {l row : List I2} (hp : l.Perm row) (hn : row.Nodup) (ha : l.Pairwise lt2) : l = sortI row :=
  sorted_one lt2_irr lt2_tr (hp.trans (sortX_perm lt2 row).symm) ha (sortX_sorted lt2_tr lt2_tot row hn)
/-! the graph -/
theorem Out.congr {n : Nat} {E E' : Nat → List Int} (hR : ∀ u v, Rch n E u v ↔ Rch n E' u v) {D : Nat → Prop} {l : List (List Nat)} (h : Out n E D l) : Out n E' D l := by
  have hF : ∀ D i, Free n E D i ↔ Free n E' D i := fun D i => by unfold Free; simp only [hR]
  have hS : ∀ u v, Scc n E u v ↔ Scc n E' u v := fun u v => by unfold Scc; simp only [hR]
  induction h with
  | nil h => exact .nil fun i hi => h i ((hF _ _).2 hi)
  | @cons D i f r h1 h2 h3 h4 ih =>
    refine .cons ((hF _ _).1 h1) (fun k hk hf => h2 k hk ((hF _ _).2 hf)) (fun j hj => (h3 j hj).trans (hS _ _)) ?_
    have e : (fun x => D x ∨ (x < n ∧ Scc n E' i x)) = fun x => D x ∨ (x < n ∧ Scc n E i x) := funext fun x => by rw [hS]
    rw [e]; exact ih
def eR (C : LogL) (S : List I2) (a b : Nat) : Bool := decide ((nthI S b).2 ≤ upto (nthI S a) (attC C (nthI S a)) (nthI S b).1.toNat)
def edgesR (C : LogL) (S : List I2) (a : Nat) : List Int := ((List.range S.length).filter (eR C S a)).map fun (b : Nat) => (b : Int)
theorem eR_iff {C : LogL} {S : List I2} (hS : ∀ i ∈ S, (0 ≤ i.1 ∧ i.1 < 7) ∧ 1 ≤ i.2 ∧ i.2 ≤ 1000) {a b : Nat} (hb : b < S.length) : eR C S a b = true ↔ edgeP (nthI S a) (attC C (nthI S a)).deps (nthI S b) := by
  have h := hS _ (nth_mem hb)
  unfold eR edgeP upto
  rw [decide_eq_true_iff]
  have hr : rightI (nthI S b) := ⟨h.1.1, h.1.2, h.2.1, by omega⟩
  rw [Int.toNat_of_nonneg h.1.1]
  split
  · rename_i e
    constructor
    · intro h2
      by_cases h3 : (nthI S b).2 ≤ (attC C (nthI S a)).deps.g (nthI S b).1.toNat
      · exact .inl ⟨hr, h3⟩
      · exact .inr ⟨e, by omega⟩
    · rintro (⟨_, h2⟩ | ⟨_, h2⟩) <;> omega
  · rename_i e
    constructor
    · intro h2; exact .inl ⟨hr, h2⟩
    · rintro (⟨_, h2⟩ | ⟨h2, _⟩)
      · exact h2
      · exact absurd h2 e
theorem rch_R {C : LogL} {S : List I2} (hS : ∀ i ∈ S, (0 ≤ i.1 ∧ i.1 < 7) ∧ 1 ≤ i.2 ∧ i.2 ≤ 1000) (u v : Nat) : Rch S.length (edgesR C S) u v ↔ Rch S.length (edgesL C S) u v := by
  have hadj : ∀ u v, Adj S.length (edgesL C S) u v → Adj S.length (edgesR C S) u v := fun u v ⟨h1, h2, h3⟩ => by
    refine ⟨h1, h2, ?_⟩
    simp only [edgesL, List.mem_map, List.mem_filter, List.mem_range, decide_eq_true_iff] at h3
    obtain ⟨b, ⟨hb, _, he⟩, e⟩ := h3
    simp only [edgesR, List.mem_map, List.mem_filter, List.mem_range]
    exact ⟨b, ⟨hb, (eR_iff hS hb).2 he⟩, e⟩
  have hadj2 : ∀ u v, Adj S.length (edgesR C S) u v → u = v ∨ Adj S.length (edgesL C S) u v := fun u v ⟨h1, h2, h3⟩ => by
    by_cases e : u = v
    · exact .inl e
    · refine .inr ⟨h1, h2, ?_⟩
      simp only [edgesR, List.mem_map, List.mem_filter, List.mem_range] at h3
      obtain ⟨b, ⟨hb, he⟩, eb⟩ := h3
      have : b = v := by omega
      subst this
      simp only [edgesL, List.mem_map, List.mem_filter, List.mem_range, decide_eq_true_iff]
      exact ⟨b, ⟨hb, e, (eR_iff hS hb).1 he⟩, rfl⟩
  constructor
  · intro h
    induction h with
    | refl => exact .refl _
    | step a _ ih =>
      rcases hadj2 _ _ a with e | a
      · rw [e]; exact ih
      · exact .step a ih
  · intro h
    induction h with
    | refl => exact .refl _
    | step a _ ih => exact .step (hadj _ _ a) ih
theorem parts_R {C : LogL} {S : List I2} (hS : ∀ i ∈ S, (0 ≤ i.1 ∧ i.1 < 7) ∧ 1 ≤ i.2 ∧ i.2 ≤ 1000) {l : List (List Nat)} (h : Out S.length (edgesR C S) (fun _ => False) l) : partsOf S.length (edgesL C S) = l :=
  partsOf_eq (h.congr (rch_R hS))
/-! a part in its order -/
abbrev seqK (C : LogL) (S : List I2) (v : Nat) : Int := (attC C (nthI S v)).seq
theorem part_B {C : LogL} {S : List I2} (hS : S.Pairwise lt2) {part : List Nat} (hp : part.Nodup) (hl : ∀ v ∈ part, v < S.length) {Q : List Kn} (hq : Q.Perm (part.map fun v => kel C (nthI S v))) (hs : Q.Pairwise belowP) :
    Q = kmap C ((sortK (seqK C S) part).map (nthI S)) := by
  refine sorted_one (lt := belowP) ord_B.irr ord_B.tr ?_ hs ?_
  · have : kmap C ((sortK (seqK C S) part).map (nthI S)) = (sortK (seqK C S) part).map fun v => kel C (nthI S v) := by simp [kmap, Function.comp_def]
    rw [this]
    exact hq.trans ((sortX_perm _ part).map _).symm
  · have : kmap C ((sortK (seqK C S) part).map (nthI S)) = (sortK (seqK C S) part).map fun v => kel C (nthI S v) := by simp [kmap, Function.comp_def]
    rw [this, List.pairwise_map]
    have h1 := sortX_sorted (ltK_tr (seqK C S)) (ltK_tot (seqK C S)) part hp
    have hmem : ∀ v ∈ sortK (seqK C S) part, v < S.length := fun v hv => hl v ((sortX_perm _ part).mem_iff.1 hv)
    refine List.Pairwise.imp_of_mem (fun {a b} ha hb hab => ?_) h1
    rcases hab with h | ⟨e, h⟩
    · exact .inl h
    · refine .inr ⟨e, ?_⟩
      have h3 := List.pairwise_iff_getElem.1 hS a b (hmem a ha) (hmem b hb) h
      have e1 : nthI S a = S[a]'(hmem a ha) := by unfold nthI; rw [List.getD_eq_getElem?_getD, List.getElem?_eq_getElem (hmem a ha)]; rfl
      have e2 : nthI S b = S[b]'(hmem b hb) := by unfold nthI; rw [List.getD_eq_getElem?_getD, List.getElem?_eq_getElem (hmem b hb)]; rfl
      show lt2 (nthI S a) (nthI S b)
      rw [e1, e2]; exact h3
end Go.Fw

/-! Three plans. -/
set_option linter.unusedSimpArgs false
set_option linter.unusedVariables false
namespace Go.Fw
open Go
section
variable {C : LogL} {s : PS} {r : Nat}
theorem stepN (h : lkC ((r : Int), s.done.g r + 1) C = none) (hb : ¬ beyond C ((r : Int), s.done.g r + 1)) : stepP C s r = s := by unfold stepP; rw [if_pos h, if_neg hb]
theorem stepB (h : lkC ((r : Int), s.done.g r + 1) C = none) (hb : beyond C ((r : Int), s.done.g r + 1)) : stepP C s r = { s with mis := addI ((r : Int), s.done.g r + 1) s.mis } := by unfold stepP; rw [if_pos h, if_pos hb]
theorem stepM {k : I2} (h : lkC ((r : Int), s.done.g r + 1) C ≠ none) (hh : hangs C s.done ((r : Int), s.done.g r + 1) = .inr k) : stepP C s r = { s with mis := addI k s.mis } := by unfold stepP; rw [if_neg h, hh]
theorem stepD {row : List I2} (h : lkC ((r : Int), s.done.g r + 1) C ≠ none) (hh : hangs C s.done ((r : Int), s.done.g r + 1) = .inl row) : stepP C s r = { s with done := upD s.done (orderL C row), out := s.out ++ orderL C row, did := true } := by unfold stepP; rw [if_neg h, hh]
end
abbrev kn (r s q : Int) (d : List Int) : Kn := ((r, s), { Cel.zero with st := 3, att := ⟨q, fun i => if i.val < d.length then d.getD i.val 0 else 0⟩ })
abbrev L1 : LogL := [kn 0 1 2 [0, 1], kn 1 1 1 [1]]
abbrev L2 : LogL := [kn 0 1 2 [0, 1]]
abbrev L3 : LogL := [kn 0 1 0 [], kn 0 2 0 [0, 1], kn 1 1 0 [0, 0, 1]]
theorem round_7 (C : LogL) (d : Dp) (o : List I2) : roundP C d o = stepP C (stepP C (stepP C (stepP C (stepP C (stepP C (stepP C ⟨d, o, [], false⟩ 0) 1) 2) 3) 4) 5) 6 := rfl
theorem ord_1 : orderL L1 [(0, 1), (1, 1)] = [(1, 1), (0, 1)] := by
  have hp := orderL_perm L1 [(0, 1), (1, 1)]
  have hr := (hangs_row (C := L1) (done := Dp.zero) (r := 0) (row := [(0, 1), (1, 1)]) (by omega) (by decide +kernel) (by decide +kernel)).1
  have RR : Row (attC L1) Dp.zero [(0, 1), (1, 1)] := ⟨hr.nd, by decide, hr.new, hr.cl⟩
  have ho := order_ok (C := L1) RR (PO.start (attC L1)).cl (fun _ _ => rfl)
  generalize orderL L1 [(0, 1), (1, 1)] = l at *
  have hl := hp.length_eq
  match l, hl with
  | [a, b], _ =>
    have ha : a = (0, 1) ∨ a = (1, 1) := by simpa using hp.mem_iff.1 (List.mem_cons_self ..)
    have hb : b = (0, 1) ∨ b = (1, 1) := by simpa using hp.mem_iff.1 (List.mem_cons_of_mem _ (List.mem_cons_self ..))
    have hn : a ≠ b := by
      have := hp.nodup_iff.2 (by decide)
      simp at this; exact this
    have hw : ¬ Wr (attC L1) a b := by
      have := List.pairwise_cons.1 ho
      exact this.1 b (List.mem_cons_self ..)
    rcases ha with rfl | rfl <;> rcases hb with rfl | rfl
    · exact absurd rfl hn
    · refine absurd ?_ hw
      refine ⟨.step ⟨by decide, by decide, by decide +kernel⟩ (.refl _), .inr (.inl (by decide +kernel))⟩
    · rfl
    · exact absurd rfl hn
theorem plan_1 : planL L1 Dp.zero = ([(1, 1), (0, 1)], []) := by
  have h1 : roundP L1 Dp.zero [] = ⟨upD Dp.zero [(1, 1), (0, 1)], [(1, 1), (0, 1)], [], true⟩ := by
    rw [round_7, stepD (r := 0) (row := [(0, 1), (1, 1)]) (by decide +kernel) (by decide +kernel), ord_1]
    rw [stepN (r := 1) (by decide +kernel) (by decide +kernel), stepN (r := 2) (by decide +kernel) (by decide +kernel), stepN (r := 3) (by decide +kernel) (by decide +kernel), stepN (r := 4) (by decide +kernel) (by decide +kernel), stepN (r := 5) (by decide +kernel) (by decide +kernel), stepN (r := 6) (by decide +kernel) (by decide +kernel)]
    rfl
  have h2 : roundP L1 (upD Dp.zero [(1, 1), (0, 1)]) [(1, 1), (0, 1)] = ⟨upD Dp.zero [(1, 1), (0, 1)], [(1, 1), (0, 1)], [], false⟩ := by
    rw [round_7, stepN (r := 0) (by decide +kernel) (by decide +kernel)]
    rw [stepN (r := 1) (by decide +kernel) (by decide +kernel), stepN (r := 2) (by decide +kernel) (by decide +kernel), stepN (r := 3) (by decide +kernel) (by decide +kernel), stepN (r := 4) (by decide +kernel) (by decide +kernel), stepN (r := 5) (by decide +kernel) (by decide +kernel), stepN (r := 6) (by decide +kernel) (by decide +kernel)]
  show planP L1 3 Dp.zero [] = _
  simp only [planP, h1, h2, if_true]
  rfl
theorem plan_2 : planL L2 Dp.zero = ([], [(1, 1)]) := by
  have h1 : roundP L2 Dp.zero [] = ⟨Dp.zero, [], [(1, 1)], false⟩ := by
    rw [round_7, stepM (r := 0) (k := (1, 1)) (by decide +kernel) (by decide +kernel)]
    rw [stepN (r := 1) (by decide +kernel) (by decide +kernel), stepN (r := 2) (by decide +kernel) (by decide +kernel), stepN (r := 3) (by decide +kernel) (by decide +kernel), stepN (r := 4) (by decide +kernel) (by decide +kernel), stepN (r := 5) (by decide +kernel) (by decide +kernel), stepN (r := 6) (by decide +kernel) (by decide +kernel)]
    rfl
  show planP L2 2 Dp.zero [] = _
  simp only [planP, h1, if_true]
  rfl
theorem plan_3 : planL L3 Dp.zero = ([(0, 1)], [(2, 1)]) := by
  have h1 : roundP L3 Dp.zero [] = ⟨upD Dp.zero [(0, 1)], [(0, 1)], [(2, 1)], true⟩ := by
    rw [round_7, stepD (r := 0) (row := [(0, 1)]) (by decide +kernel) (by decide +kernel), orderL_one]
    rw [stepM (r := 1) (k := (2, 1)) (by decide +kernel) (by decide +kernel), stepN (r := 2) (by decide +kernel) (by decide +kernel), stepN (r := 3) (by decide +kernel) (by decide +kernel), stepN (r := 4) (by decide +kernel) (by decide +kernel), stepN (r := 5) (by decide +kernel) (by decide +kernel), stepN (r := 6) (by decide +kernel) (by decide +kernel)]
    rfl
  have h2 : roundP L3 (upD Dp.zero [(0, 1)]) [(0, 1)] = ⟨upD Dp.zero [(0, 1)], [(0, 1)], [(2, 1)], false⟩ := by
    rw [round_7, stepM (r := 0) (k := (2, 1)) (by decide +kernel) (by decide +kernel)]
    rw [stepM (r := 1) (k := (2, 1)) (by decide +kernel) (by decide +kernel), stepN (r := 2) (by decide +kernel) (by decide +kernel), stepN (r := 3) (by decide +kernel) (by decide +kernel), stepN (r := 4) (by decide +kernel) (by decide +kernel), stepN (r := 5) (by decide +kernel) (by decide +kernel), stepN (r := 6) (by decide +kernel) (by decide +kernel)]
    rfl
  show planP L3 4 Dp.zero [] = _
  simp only [planP, h1, h2, if_true]
  rfl
end Go.Fw
