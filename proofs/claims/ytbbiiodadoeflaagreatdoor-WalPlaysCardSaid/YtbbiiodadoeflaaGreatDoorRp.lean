import Derived.Test.YtbbiiodadoeflaaGreatDoorWe
set_option linter.unusedVariables false
set_option linter.unusedSimpArgs false
namespace Go.Fw
open Go.Proofs
/-! The document's Open against the program's: plain. -/
def nuN (s : Bs) : Option Nat := s.foldl (fun acc c => acc.bind fun n => if 48 ≤ c.toNat ∧ c.toNat ≤ 57 then some (n * 10 + (c.toNat - 48)) else none) (some 0)
/-- a number of one to nine digits -/
def nuF (s : Bs) : Option Nat := if s = [] ∨ 9 < s.length ∨ s[0]? = some 48 then none else nuN s
/-- a segment's numbers -/
def namF (s : Bs) : Option (Nat × Nat) :=
  if s.length < 7 ∨ s.take 4 ≠ [108, 111, 103, 46] then none else
  if ((s.drop 4).takeWhile (· != 46)).length = (s.drop 4).length then none else
  match nuF ((s.drop 4).takeWhile (· != 46)), nuF ((s.drop 4).drop (((s.drop 4).takeWhile (· != 46)).length + 1)) with
  | some g, some k => some (g, k)
  | _, _ => none
theorem nuF_dg : ∀ n, n < 100 → 0 < n → nuF (dg n) = some n := by decide +kernel
theorem nam_nm (g k : Nat) (hg0 : 0 < g) (hg : g < 100) (hk0 : 0 < k) (hk : k < 100) : namF (nmB g k) = some (g, k) := by
  have h1 := dg_len g
  have h2 := dg_len k
  have ht : (nmB g k).take 4 = [108, 111, 103, 46] := List.take_left' rfl
  have hd : (nmB g k).drop 4 = dg g ++ 46 :: dg k := List.drop_left' rfl
  have hl : (nmB g k).length = 4 + ((dg g).length + ((dg k).length + 1)) := by simp [nmB]; omega
  unfold namF
  rw [if_neg (by rw [ht]; simp; omega), hd, tw_app _ _ (dot_nin g hg), if_neg (by simp), nuF_dg g hg hg0]
  rw [show (dg g ++ 46 :: dg k).drop ((dg g).length + 1) = dg k from by rw [← List.drop_drop, List.drop_left]; rfl, nuF_dg k hk hk0]
def NmOk (nm : Bs) : Prop := namF nm = plF nm
theorem nmOk_nm {g k : Nat} (hg0 : 0 < g) (hg : g < 100) (hk0 : 0 < k) (hk : k < 100) : NmOk (nmB g k) := by
  unfold NmOk; rw [nam_nm _ _ hg0 hg hk0 hk, plF_nm hg0 hg hk0 hk]
/-- the document's greatest generation -/
def gfN (fl : List Fl) : List Bs → Nat → Nat
  | [], best => best
  | nm :: r, best => match plF nm with
    | none => gfN fl r best
    | some p => if p.2 ≠ 1 ∨ p.1 ≤ best then gfN fl r best else if (readG fl p.1).2.2.2 then gfN fl r p.1 else gfN fl r best
theorem gfN_drop (fl : List Fl) (l : List Bs) (j best : Nat) (x : Bs) (hx : l[j]? = some x) : gfN fl (l.drop j) best = match plF x with
    | none => gfN fl (l.drop (j + 1)) best
    | some p => if p.2 ≠ 1 ∨ p.1 ≤ best then gfN fl (l.drop (j + 1)) best else if (readG fl p.1).2.2.2 then gfN fl (l.drop (j + 1)) p.1 else gfN fl (l.drop (j + 1)) best := by
  have hj := (List.getElem?_eq_some_iff.1 hx).1
  rw [List.drop_eq_getElem_cons hj, (List.getElem?_eq_some_iff.1 hx).2]; rfl
abbrev wholeG (fl : List Fl) (g : Nat) : Prop := (readG fl g).2.2.2 = true
theorem grN_max (fl : List Fl) : ∀ (l : List Bs) (b : Nat), b ≤ grN fl l b ∧ (∀ nm ∈ l, ∀ p, plF nm = some p → wholeG fl p.1 → p.1 ≤ grN fl l b) ∧ (grN fl l b = b ∨ (wholeG fl (grN fl l b)))
  | [], b => ⟨Nat.le_refl _, by simp, .inl rfl⟩
  | nm :: r, b => by
    have ih := grN_max fl r
    unfold grN
    cases hp : plF nm with
    | none =>
      simp only
      refine ⟨(ih b).1, fun x hx p h w => ?_, (ih b).2.2⟩
      rcases List.mem_cons.1 hx with rfl | hx
      · rw [hp] at h; cases h
      · exact (ih b).2.1 x hx p h w
    | some p =>
      simp only
      by_cases h1 : p.1 ≤ b
      · rw [if_pos h1]
        refine ⟨(ih b).1, fun x hx q h w => ?_, (ih b).2.2⟩
        rcases List.mem_cons.1 hx with rfl | hx
        · rw [hp] at h; cases h; exact Nat.le_trans h1 (ih b).1
        · exact (ih b).2.1 x hx q h w
      · rw [if_neg h1]
        by_cases h2 : (readG fl p.1).2.2.2 = true
        · rw [if_pos h2]
          refine ⟨Nat.le_trans (by omega) (ih p.1).1, fun x hx q h w => ?_, ?_⟩
          · rcases List.mem_cons.1 hx with rfl | hx
            · rw [hp] at h; cases h; exact (ih p.1).1
            · exact (ih p.1).2.1 x hx q h w
          · right
            rcases (ih p.1).2.2 with h | h
            · rw [h]; exact h2
            · exact h
        · rw [if_neg h2]
          refine ⟨(ih b).1, fun x hx q h w => ?_, (ih b).2.2⟩
          rcases List.mem_cons.1 hx with rfl | hx
          · rw [hp] at h; cases h; exact absurd w h2
          · exact (ih b).2.1 x hx q h w
theorem gfN_max (fl : List Fl) : ∀ (l : List Bs) (b : Nat), b ≤ gfN fl l b ∧ (∀ nm ∈ l, ∀ p, plF nm = some p → p.2 = 1 → wholeG fl p.1 → p.1 ≤ gfN fl l b) ∧ (gfN fl l b = b ∨ (wholeG fl (gfN fl l b)))
  | [], b => ⟨Nat.le_refl _, by simp, .inl rfl⟩
  | nm :: r, b => by
    have ih := gfN_max fl r
    unfold gfN
    cases hp : plF nm with
    | none =>
      simp only
      refine ⟨(ih b).1, fun x hx p h w => ?_, (ih b).2.2⟩
      rcases List.mem_cons.1 hx with rfl | hx
      · rw [hp] at h; cases h
      · exact (ih b).2.1 x hx p h w
    | some p =>
      simp only
      by_cases h1 : p.2 ≠ 1 ∨ p.1 ≤ b
      · rw [if_pos h1]
        refine ⟨(ih b).1, fun x hx q h w0 w => ?_, (ih b).2.2⟩
        rcases List.mem_cons.1 hx with rfl | hx
        · rw [hp] at h; cases h
          rcases h1 with h1 | h1
          · exact absurd w0 h1
          · exact Nat.le_trans h1 (ih b).1
        · exact (ih b).2.1 x hx q h w0 w
      · rw [if_neg h1]
        by_cases h2 : (readG fl p.1).2.2.2 = true
        · rw [if_pos h2]
          refine ⟨Nat.le_trans (by omega) (ih p.1).1, fun x hx q h w0 w => ?_, ?_⟩
          · rcases List.mem_cons.1 hx with rfl | hx
            · rw [hp] at h; cases h; exact (ih p.1).1
            · exact (ih p.1).2.1 x hx q h w0 w
          · right
            rcases (ih p.1).2.2 with h | h
            · rw [h]; exact h2
            · exact h
        · rw [if_neg h2]
          refine ⟨(ih b).1, fun x hx q h w0 w => ?_, (ih b).2.2⟩
          rcases List.mem_cons.1 hx with rfl | hx
          · rw [hp] at h; cases h; exact absurd w h2
          · exact (ih b).2.1 x hx q h w0 w
theorem grN_from (fl : List Fl) : ∀ (l : List Bs) (b : Nat), grN fl l b = b ∨ ∃ nm ∈ l, ∃ k, plF nm = some (grN fl l b, k)
  | [], b => .inl rfl
  | nm :: r, b => by
    have ih := grN_from fl r
    have up : ∀ b, (∃ nm ∈ r, ∃ k, plF nm = some (grN fl r b, k)) → ∃ x ∈ nm :: r, ∃ k, plF x = some (grN fl r b, k) := fun b ⟨x, hx, h⟩ => ⟨x, List.mem_cons_of_mem _ hx, h⟩
    unfold grN
    cases hp : plF nm with
    | none => exact (ih b).imp id (up b)
    | some p =>
      simp only
      by_cases h1 : p.1 ≤ b
      · rw [if_pos h1]; exact (ih b).imp id (up b)
      · rw [if_neg h1]
        by_cases h2 : (readG fl p.1).2.2.2 = true
        · rw [if_pos h2]
          rcases ih p.1 with h | h
          · right; rw [h]; exact ⟨nm, List.mem_cons_self .., p.2, hp⟩
          · right; exact up _ h
        · rw [if_neg h2]; exact (ih b).imp id (up b)
/-- a whole generation has its first segment -/
theorem whole_first {fl : List Fl} {g : Nat} (h : wholeG fl g) : ∃ x, lookF (nmB g 1) fl = some x := by
  cases hl : lookF (nmB g 1) fl with
  | some x => exact ⟨x, rfl⟩
  | none =>
    have : segN fl g 99 1 [] 0 0 = some ([], 0, 0) := by rw [segN, hl]
    unfold wholeG readG at h
    rw [this] at h
    simp [hdrOk] at h
theorem gfN_grN {fl : List Fl} : gfN fl (fl.map Fl.name) 0 = grF fl := by
  unfold grF
  have h1 := grN_max fl (fl.map Fl.name) 0
  have h2 := gfN_max fl (fl.map Fl.name) 0
  have h3 := grN_from fl (fl.map Fl.name) 0
  have h4 : grN fl (fl.map Fl.name) 0 ≤ gfN fl (fl.map Fl.name) 0 := by
    rcases h3 with h | ⟨nm, hm, k, hk⟩
    · omega
    · rcases h1.2.2 with h | hw
      · omega
      · obtain ⟨x, hx⟩ := whole_first hw
        obtain ⟨hx1, hx2⟩ := look_name hx
        have hp := plF_some hk
        exact h2.2.1 x.name (List.mem_map_of_mem hx1) (grN fl (fl.map Fl.name) 0, 1) (by rw [hx2]; exact plF_nm hp.1 hp.2.1 (by omega) (by omega)) rfl hw
  have h5 : ∀ (l : List Bs) (b : Nat), gfN fl l b = b ∨ ∃ nm ∈ l, ∃ p, plF nm = some p ∧ p.1 = gfN fl l b := by
    intro l
    induction l with
    | nil => exact fun b => .inl rfl
    | cons nm r ih =>
      intro b
      have up : ∀ b, (∃ nm ∈ r, ∃ p, plF nm = some p ∧ p.1 = gfN fl r b) → ∃ x ∈ nm :: r, ∃ p, plF x = some p ∧ p.1 = gfN fl r b := fun b ⟨x, hx, h⟩ => ⟨x, List.mem_cons_of_mem _ hx, h⟩
      unfold gfN
      cases hp : plF nm with
      | none => exact (ih b).imp id (up b)
      | some p =>
        simp only
        by_cases h1 : p.2 ≠ 1 ∨ p.1 ≤ b
        · rw [if_pos h1]; exact (ih b).imp id (up b)
        · rw [if_neg h1]
          by_cases h2 : (readG fl p.1).2.2.2 = true
          · rw [if_pos h2]
            rcases ih p.1 with h | h
            · right; rw [h]; exact ⟨nm, List.mem_cons_self .., p, hp, rfl⟩
            · right; exact up _ h
          · rw [if_neg h2]; exact (ih b).imp id (up b)
  refine Nat.le_antisymm ?_ h4
  rcases h5 (fl.map Fl.name) 0 with h | ⟨nm, hm, p, hp, hg⟩
  · omega
  · rcases h2.2.2 with h | hw
    · omega
    · rw [← hg] at hw ⊢
      exact h1.2.1 nm hm p hp hw
/-- how far the last segment was read; -1: whole -/
def rdE (fl : List Fl) (r : List Bs × (Nat × Nat) × Nat × Bool) : Int := if r.2.2.1 < (rdB (lookF (nmB r.2.1.1 r.2.1.2) fl)).length then (r.2.2.1 : Nat) else -1
end Go.Fw
namespace Go.Fw
open Go.Proofs
/-! Torn frames. Plain. -/
/-- a generation whose last segment is torn -/
structure TornR (n : Nat) (was came : List Bs) (lp : List (List Bs)) (lb : List Bs) : Prop where
  flat : lp.flatten ++ lb = numB (n : Nat) :: was
  first : ∀ l r, lp ++ [lb] = l :: r → l ≠ []
  okw : ∀ p ∈ was, okR p
  okc : ∀ p ∈ came, okR p
  nn : n ≤ was.length
  nb : n < 1000000000
end Go.Fw
namespace Go.Fw
open Go.Proofs
/-! What Open leaves, whatever the power. Plain. -/
/-- the last segment is another one -/
theorem Gen.upd {fl F : List Fl} {g : Nat} {init : List Bs} {x y : Bs} (G : Gen fl g (init ++ [x])) (hg : g < 100) (hK : init.length + 1 < 99) (hs : Srt F) (hl : ∀ nm', lookF nm' F = if nm' = nmB g (init.length + 1) then some ⟨nmB g (init.length + 1), y, y.length⟩ else lookF nm' fl) (hn : F.map Fl.name = fl.map Fl.name) : Gen F g (init ++ [y]) := by
  refine ⟨hs, fun k hk => ?_, fun z hz => ?_⟩
  · rw [hl]
    rw [List.length_append, List.length_singleton] at hk
    by_cases e : k = init.length
    · subst e
      rw [if_pos rfl]
      simp
    · have hk2 : k < init.length := by omega
      rw [if_neg (fun h => e (by have := (nmB_inj hg (by omega) hg (by omega) h).2; omega)), List.getElem_append_left hk2]
      have := G.seg k (by simp; omega)
      rw [List.getElem_append_left hk2] at this
      exact this
  · obtain ⟨w, hw, e⟩ := names_mem hn hz
    obtain ⟨k, hk, e2⟩ := G.only w hw
    exact ⟨k, by simpa using hk, e ▸ e2⟩
end Go.Fw
namespace Go.Fw
open Go.Proofs
/-! A second Open changes nothing. Plain. -/
/-! what stays through the changes -/
structure Pres (D D' : Dk) : Prop where
  srt : Srt D.fl → Srt D'.fl
  nm : ∀ y ∈ D'.fl, ∃ x ∈ D.fl, x.name = y.name
  kp : (∀ x ∈ D.fl, x.kept ≤ x.b.length) → ∀ y ∈ D'.fl, y.kept ≤ y.b.length
  tt : tot D'.fl ≤ tot D.fl
  qt : D'.quota = D.quota
  lf : D'.left ≤ D.left
  ln : D'.fl.length ≤ D.fl.length
theorem Pres.refl (D : Dk) : Pres D D := ⟨id, fun y hy => ⟨y, hy, rfl⟩, id, Nat.le_refl _, rfl, Nat.le_refl _, Nat.le_refl _⟩
theorem Pres.trans {A B C : Dk} (h : Pres A B) (g : Pres B C) : Pres A C :=
  ⟨fun s => g.srt (h.srt s), fun y hy => by
    obtain ⟨x, hx, e⟩ := g.nm y hy
    obtain ⟨z, hz, e2⟩ := h.nm x hx
    exact ⟨z, hz, e2.trans e⟩, fun k => g.kp (h.kp k), Nat.le_trans g.tt h.tt, g.qt.trans h.qt, Nat.le_trans g.lf h.lf, Nat.le_trans g.ln h.ln⟩
theorem pres_pow (D : Dk) : Pres D (powF D).1 := by
  have h1 := powF_fl D
  have h2 := powF_le D
  exact ⟨fun s => by rw [h1]; exact s, fun y hy => by rw [h1] at hy; exact ⟨y, hy, rfl⟩, fun k y hy => by rw [h1] at hy; exact k y hy, by rw [h1]; exact Nat.le_refl _, h2.2.1, h2.1, by rw [h1]; exact Nat.le_refl _⟩
theorem pres_mod (D : Dk) (i : Nat) (g : Fl → Fl) (hn : ∀ f, (g f).name = f.name) (hb : ∀ f, (g f).b.length ≤ f.b.length) (hk : ∀ f, f.kept ≤ f.b.length → (g f).kept ≤ (g f).b.length) : Pres D { (powF D).1 with fl := D.fl.modify i g } := by
  have h2 := powF_le D
  refine ⟨fun s => srt_upd (nm := []) (g := g) hn s i, fun y hy => ?_, fun k y hy => ?_, tot_mod _ _ _ hb, h2.2.1, h2.1, by simp⟩
  · obtain ⟨x, hx, e⟩ := mem_upd (nm := []) hy
    rcases e with rfl | rfl
    · exact ⟨y, hx, rfl⟩
    · exact ⟨x, hx, (hn x).symm⟩
  · obtain ⟨x, hx, e⟩ := mem_upd (nm := []) hy
    rcases e with rfl | rfl
    · exact k y hx
    · exact hk x (k x hx)
theorem pres_sync (nm : Bs) (D : Dk) : Pres D (syncF nm D).1 := by
  unfold syncF
  split
  · exact Pres.refl D
  split
  · exact pres_pow D
  · exact pres_mod D _ keptF (fun _ => rfl) (fun _ => Nat.le_refl _) (fun _ _ => Nat.le_refl _)
theorem pres_cut (nm : Bs) (n : Nat) (D : Dk) : Pres D (cutF nm n D).1 := by
  unfold cutF
  split
  · exact Pres.refl D
  split
  · exact Pres.refl D
  split
  · exact pres_pow D
  · exact pres_mod D _ (cutT n) (fun _ => rfl) (fun f => by simp [cutT]; omega) (fun f h => by simp [cutT]; omega)
theorem pres_rm (nm : Bs) (D : Dk) : Pres D (rmF nm D).1 := by
  unfold rmF
  split
  · exact Pres.refl D
  split
  · exact pres_pow D
  · have h2 := powF_le D
    exact ⟨fun s => srt_del s _, fun y hy => ⟨y, (List.eraseIdx_sublist ..).subset hy, rfl⟩, fun k y hy => k y ((List.eraseIdx_sublist ..).subset hy), tot_erase _ _, h2.2.1, h2.1, (List.eraseIdx_sublist ..).length_le⟩
theorem pres_cl (last : Nat × Nat) : ∀ (l : List Bs) (D : Dk), Pres D (clN last l D).1
  | [], D => Pres.refl D
  | nm :: r, D => by
    have h3 := pres_cl last r (rmF nm D).1
    unfold clN
    cases plF nm with
    | none => exact pres_cl last r D
    | some p =>
      simp only
      split
      · exact pres_cl last r D
      split
      · exact pres_rm nm D
      · exact (pres_rm nm D).trans h3
theorem opF_eq (D : Dk) (hg : grF D.fl ≠ 0) (r : List Bs × (Nat × Nat) × Nat × Bool) (hr : readG D.fl (grF D.fl) = r) (c : Dk × Nat) (hc : (if r.2.2.1 < (rdB (lookF (nmB r.2.1.1 r.2.1.2) D.fl)).length then cutF (nmB r.2.1.1 r.2.1.2) r.2.2.1 D else (D, 0)) = c) :
    opF D = if c.2 ≠ 0 then ((none, []), c) else if (clF r.2.1 c.1).2 ≠ 0 then ((none, []), clF r.2.1 c.1) else if (syncF (nmB r.2.1.1 r.2.1.2) (clF r.2.1 c.1).1).2 ≠ 0 then ((none, []), syncF (nmB r.2.1.1 r.2.1.2) (clF r.2.1 c.1).1)
      else ((some ⟨r.2.1.1, r.2.1.2, false⟩, r.1), (syncF (nmB r.2.1.1 r.2.1.2) (clF r.2.1 c.1).1).1, 0) := by
  subst hr hc
  unfold opF
  rw [if_neg hg]
theorem pres_op (D : Dk) : Pres D (opF D).2.1 := by
  have h0 := pres_cl (0, 0) (D.fl.map Fl.name) D
  by_cases hg : grF D.fl = 0
  · unfold opF
    rw [if_pos hg]
    split
    · exact h0
    · exact h0
  · rw [opF_eq D hg _ rfl _ rfl]
    generalize readG D.fl (grF D.fl) = r
    have hc : Pres D (if r.2.2.1 < (rdB (lookF (nmB r.2.1.1 r.2.1.2) D.fl)).length then cutF (nmB r.2.1.1 r.2.1.2) r.2.2.1 D else (D, 0)).1 := by
      split
      · exact pres_cut _ _ D
      · exact Pres.refl D
    generalize (if r.2.2.1 < (rdB (lookF (nmB r.2.1.1 r.2.1.2) D.fl)).length then cutF (nmB r.2.1.1 r.2.1.2) r.2.2.1 D else (D, 0)) = c at *
    have hk : Pres D (clF r.2.1 c.1).1 := hc.trans (pres_cl r.2.1 (c.1.fl.map Fl.name) c.1)
    have hs := hk.trans (pres_sync (nmB r.2.1.1 r.2.1.2) (clF r.2.1 c.1).1)
    split
    · exact hc
    split
    · exact hk
    split
    · exact hs
    · exact hs
/-- a working disk is cleaned -/
def goes (last : Nat × Nat) (nm : Bs) : Prop := ∃ p, plF nm = some p ∧ ¬ (p.1 = last.1 ∧ p.2 ≤ last.2)
theorem srt_nod {l : List Fl} (h : Srt l) : (l.map Fl.name).Nodup := h.imp (S := (· ≠ ·)) (by intro a b h e; rw [e, bl_irr] at h; cases h)
end Go.Fw
namespace Go.Fw
open Go.Proofs
theorem segN_end (fl : List Fl) (g : Nat) (r : List Bs × Nat × Nat) : ∀ f k all lk size, segN fl g f k all lk size = some r → lk + 1 = k →
    (r = (all, lk, size)) ∨ (k ≤ r.2.1 ∧ (∃ x, lookF (nmB g r.2.1) fl = some x ∧ r.2.2 = (scanF x.b).2 ∧ (r.2.2 < x.b.length ∨ r.2.1 + 1 = k + f ∨ lookF (nmB g (r.2.1 + 1)) fl = none)) ∧ ∀ j, k ≤ j → j ≤ r.2.1 → ∃ x, lookF (nmB g j) fl = some x)
  | 0, k, all, lk, size, h, hk => by
    rw [segN] at h; exact .inl (Option.some.inj h).symm
  | f + 1, k, all, lk, size, h, hk => by
    rw [segN] at h
    cases hl : lookF (nmB g k) fl with
    | none =>
      rw [hl] at h
      exact .inl (Option.some.inj h).symm
    | some x =>
      rw [hl] at h
      simp only at h
      right
      split at h
      · cases h
      split at h
      · rename_i ha
        have := Option.some.inj h
        subst this
        exact ⟨Nat.le_refl _, ⟨x, hl, rfl, .inl ha⟩, fun j h1 h2 => by
          have : j = k := Nat.le_antisymm h2 h1
          subst this; exact ⟨x, hl⟩⟩
      · rename_i ha
        rcases segN_end fl g r f (k + 1) _ _ _ h rfl with e | ⟨h1, ⟨y, hy, hs, hor⟩, h3⟩
        · subst e
          refine ⟨Nat.le_refl _, ⟨x, hl, rfl, ?_⟩, fun j h1 h2 => ?_⟩
          · right
            cases f with
            | zero => exact .inl rfl
            | succ f =>
              right
              rw [segN] at h
              cases hl2 : lookF (nmB g (k + 1)) fl with
              | none => rfl
              | some y =>
                rw [hl2] at h
                simp only at h
                rw [if_neg (by omega)] at h
                split at h
                · have := Option.some.inj h
                  have := congrArg (fun q => q.2.1) this
                  simp at this
                · have := segN_ok fl g f (k + 1 + 1) _ _ _ _ h
                  simp only at this; omega
          · have : j = k := Nat.le_antisymm h2 h1
            subst this; exact ⟨x, hl⟩
        · refine ⟨by omega, ⟨y, hy, hs, ?_⟩, fun j h4 h5 => ?_⟩
          · rcases hor with h6 | h6 | h6
            · exact .inl h6
            · exact .inr (.inl (by omega))
            · exact .inr (.inr h6)
          · by_cases e : j = k
            · subst e; exact ⟨x, hl⟩
            · exact h3 j (by omega) h5
/-- what a whole generation is -/
theorem whole_seg {fl : List Fl} {g : Nat} (h : wholeG fl g) (h99 : lookF (nmB g 99) fl = none) : ∃ all lk size x, segN fl g 99 1 [] 0 0 = some (all, lk, size) ∧ readG fl g = (all.tail, (g, lk), size, true) ∧ hdrOk all = true ∧ 0 < lk ∧ lk < 99 ∧
    lookF (nmB g lk) fl = some x ∧ size = (scanF x.b).2 ∧ (size < x.b.length ∨ lookF (nmB g (lk + 1)) fl = none) ∧ ∀ j, 1 ≤ j → j ≤ lk → ∃ x, lookF (nmB g j) fl = some x := by
  unfold wholeG readG at h
  cases hs : segN fl g 99 1 [] 0 0 with
  | none => rw [hs] at h; cases h
  | some r =>
    obtain ⟨all, lk, size⟩ := r
    rw [hs] at h
    simp only at h
    have hh : hdrOk all = true := by
      cases e : hdrOk all with
      | true => rfl
      | false => rw [e] at h; cases h
    rcases segN_end fl g _ 99 1 _ _ _ hs rfl with e | ⟨h1, ⟨x, hx, hsz, hor⟩, h3⟩
    · cases e; cases hh
    · simp only at h1 hx hsz hor h3
      have hlk := segN_ok fl g 99 1 _ _ _ _ hs
      simp only at hlk
      have h98 : lk ≠ 99 := by rintro rfl; rw [h99] at hx; cases hx
      refine ⟨all, lk, size, x, rfl, ?_, hh, by omega, by omega, hx, hsz, ?_, h3⟩
      · unfold readG
        rw [hs]
        simp only
        rw [if_pos hh]
        unfold plC
        rw [if_neg (by omega)]
      · rcases hor with h | h | h
        · exact .inl h
        · omega
        · exact .inr h
abbrev nb (f : Fl) : Bs × Bs := (f.name, f.b)
end Go.Fw
