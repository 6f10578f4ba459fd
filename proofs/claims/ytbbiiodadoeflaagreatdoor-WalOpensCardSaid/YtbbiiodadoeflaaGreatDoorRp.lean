import Derived.Test.YtbbiiodadoeflaaGreatDoorWe
set_option linter.unusedVariables false
set_option linter.unusedSimpArgs false
namespace Go.Fw
open Go.Proofs
/-! The document's Open against the program's: plain. -/
def nuN (s : Bs) : Option Nat := s.foldl (fun acc c => acc.bind fun n => if 48 ≤ c.toNat ∧ c.toNat ≤ 57 then some (n * 10 + (c.toNat - 48)) else none) (some 0)
/-- a number of one to nine digits -/
def nuF (s : Bs) : Option Nat := if s = [] ∨ 9 < s.length ∨ s[0]? = some 48 then none else nuN s
/-- a segment's numbers -/
def namF (s : Bs) : Option (Nat × Nat) :=
  if s.length < 7 ∨ s.take 4 ≠ [108, 111, 103, 46] then none else
  if ((s.drop 4).takeWhile (· != 46)).length = (s.drop 4).length then none else
  match nuF ((s.drop 4).takeWhile (· != 46)), nuF ((s.drop 4).drop (((s.drop 4).takeWhile (· != 46)).length + 1)) with
  | some g, some k => some (g, k)
  | _, _ => none
theorem nuF_dg : ∀ n, n < 100 → 0 < n → nuF (dg n) = some n := by decide +kernel
theorem nam_nm (g k : Nat) (hg0 : 0 < g) (hg : g < 100) (hk0 : 0 < k) (hk : k < 100) : namF (nmB g k) = some (g, k) := by
  have h1 := dg_len g
  have h2 := dg_len k
  have ht : (nmB g k).take 4 = [108, 111, 103, 46] := List.take_left' rfl
  have hd : (nmB g k).drop 4 = dg g ++ 46 :: dg k := List.drop_left' rfl
  have hl : (nmB g k).length = 4 + ((dg g).length + ((dg k).length + 1)) := by simp [nmB]; omega
  unfold namF
  rw [if_neg (by rw [ht]; simp; omega), hd, tw_app _ _ (dot_nin g hg), if_neg (by simp), nuF_dg g hg hg0]
  rw [show (dg g ++ 46 :: dg k).drop ((dg g).length + 1) = dg k from by rw [← List.drop_drop, List.drop_left]; rfl, nuF_dg k hk hk0]
theorem plF_none {nm : Bs} (h : namF nm = none) : plF nm = none := by
  cases hp : plF nm with
  | none => rfl
  | some p =>
    obtain ⟨h1, h2, h3, h4, e⟩ := plF_some hp
    rw [e, nam_nm _ _ h1 h2 h3 h4] at h; cases h
def NmOk (nm : Bs) : Prop := namF nm = plF nm
theorem nmOk_nm {g k : Nat} (hg0 : 0 < g) (hg : g < 100) (hk0 : 0 < k) (hk : k < 100) : NmOk (nmB g k) := by
  unfold NmOk; rw [nam_nm _ _ hg0 hg hk0 hk, plF_nm hg0 hg hk0 hk]
theorem nmOk_no {nm : Bs} (h : namF nm = none) : NmOk nm := by unfold NmOk; rw [h, plF_none h]
/-- the document's greatest generation -/
def gfN (fl : List Fl) : List Bs → Nat → Nat
  | [], best => best
  | nm :: r, best => match plF nm with
    | none => gfN fl r best
    | some p => if p.2 ≠ 1 ∨ p.1 ≤ best then gfN fl r best else if (readG fl p.1).2.2.2 then gfN fl r p.1 else gfN fl r best
theorem gfN_drop (fl : List Fl) (l : List Bs) (j best : Nat) (x : Bs) (hx : l[j]? = some x) : gfN fl (l.drop j) best = match plF x with
    | none => gfN fl (l.drop (j + 1)) best
    | some p => if p.2 ≠ 1 ∨ p.1 ≤ best then gfN fl (l.drop (j + 1)) best else if (readG fl p.1).2.2.2 then gfN fl (l.drop (j + 1)) p.1 else gfN fl (l.drop (j + 1)) best := by
  have hj := (List.getElem?_eq_some_iff.1 hx).1
  rw [List.drop_eq_getElem_cons hj, (List.getElem?_eq_some_iff.1 hx).2]; rfl
abbrev wholeG (fl : List Fl) (g : Nat) : Prop := (readG fl g).2.2.2 = true
theorem grN_max (fl : List Fl) : ∀ (l : List Bs) (b : Nat), b ≤ grN fl l b ∧ (∀ nm ∈ l, ∀ p, plF nm = some p → wholeG fl p.1 → p.1 ≤ grN fl l b) ∧ (grN fl l b = b ∨ (wholeG fl (grN fl l b)))
  | [], b => ⟨Nat.le_refl _, by simp, .inl rfl⟩
  | nm :: r, b => by
    have ih := grN_max fl r
    unfold grN
    cases hp : plF nm with
    | none =>
      simp only
      refine ⟨(ih b).1, fun x hx p h w => ?_, (ih b).2.2⟩
      rcases List.mem_cons.1 hx with rfl | hx
      · rw [hp] at h; cases h
      · exact (ih b).2.1 x hx p h w
    | some p =>
      simp only
      by_cases h1 : p.1 ≤ b
      · rw [if_pos h1]
        refine ⟨(ih b).1, fun x hx q h w => ?_, (ih b).2.2⟩
        rcases List.mem_cons.1 hx with rfl | hx
        · rw [hp] at h; cases h; exact Nat.le_trans h1 (ih b).1
        · exact (ih b).2.1 x hx q h w
      · rw [if_neg h1]
        by_cases h2 : (readG fl p.1).2.2.2 = true
        · rw [if_pos h2]
          refine ⟨Nat.le_trans (by omega) (ih p.1).1, fun x hx q h w => ?_, ?_⟩
          · rcases List.mem_cons.1 hx with rfl | hx
            · rw [hp] at h; cases h; exact (ih p.1).1
            · exact (ih p.1).2.1 x hx q h w
          · right
            rcases (ih p.1).2.2 with h | h
            · rw [h]; exact h2
            · exact h
        · rw [if_neg h2]
          refine ⟨(ih b).1, fun x hx q h w => ?_, (ih b).2.2⟩
          rcases List.mem_cons.1 hx with rfl | hx
          · rw [hp] at h; cases h; exact absurd w h2
          · exact (ih b).2.1 x hx q h w
theorem gfN_max (fl : List Fl) : ∀ (l : List Bs) (b : Nat), b ≤ gfN fl l b ∧ (∀ nm ∈ l, ∀ p, plF nm = some p → p.2 = 1 → wholeG fl p.1 → p.1 ≤ gfN fl l b) ∧ (gfN fl l b = b ∨ (wholeG fl (gfN fl l b)))
  | [], b => ⟨Nat.le_refl _, by simp, .inl rfl⟩
  | nm :: r, b => by
    have ih := gfN_max fl r
    unfold gfN
    cases hp : plF nm with
    | none =>
      simp only
      refine ⟨(ih b).1, fun x hx p h w => ?_, (ih b).2.2⟩
      rcases List.mem_cons.1 hx with rfl | hx
      · rw [hp] at h; cases h
      · exact (ih b).2.1 x hx p h w
    | some p =>
      simp only
      by_cases h1 : p.2 ≠ 1 ∨ p.1 ≤ b
      · rw [if_pos h1]
        refine ⟨(ih b).1, fun x hx q h w0 w => ?_, (ih b).2.2⟩
        rcases List.mem_cons.1 hx with rfl | hx
        · rw [hp] at h; cases h
          rcases h1 with h1 | h1
          · exact absurd w0 h1
          · exact Nat.le_trans h1 (ih b).1
        · exact (ih b).2.1 x hx q h w0 w
      · rw [if_neg h1]
        by_cases h2 : (readG fl p.1).2.2.2 = true
        · rw [if_pos h2]
          refine ⟨Nat.le_trans (by omega) (ih p.1).1, fun x hx q h w0 w => ?_, ?_⟩
          · rcases List.mem_cons.1 hx with rfl | hx
            · rw [hp] at h; cases h; exact (ih p.1).1
            · exact (ih p.1).2.1 x hx q h w0 w
          · right
            rcases (ih p.1).2.2 with h | h
            · rw [h]; exact h2
            · exact h
        · rw [if_neg h2]
          refine ⟨(ih b).1, fun x hx q h w0 w => ?_, (ih b).2.2⟩
          rcases List.mem_cons.1 hx with rfl | hx
          · rw [hp] at h; cases h; exact absurd w h2
          · exact (ih b).2.1 x hx q h w0 w
theorem grN_from (fl : List Fl) : ∀ (l : List Bs) (b : Nat), grN fl l b = b ∨ ∃ nm ∈ l, ∃ k, plF nm = some (grN fl l b, k)
  | [], b => .inl rfl
  | nm :: r, b => by
    have ih := grN_from fl r
    have up : ∀ b, (∃ nm ∈ r, ∃ k, plF nm = some (grN fl r b, k)) → ∃ x ∈ nm :: r, ∃ k, plF x = some (grN fl r b, k) := fun b ⟨x, hx, h⟩ => ⟨x, List.mem_cons_of_mem _ hx, h⟩
    unfold grN
    cases hp : plF nm with
    | none => exact (ih b).imp id (up b)
    | some p =>
      simp only
      by_cases h1 : p.1 ≤ b
      · rw [if_pos h1]; exact (ih b).imp id (up b)
      · rw [if_neg h1]
        by_cases h2 : (readG fl p.1).2.2.2 = true
        · rw [if_pos h2]
          rcases ih p.1 with h | h
          · right; rw [h]; exact ⟨nm, List.mem_cons_self .., p.2, hp⟩
          · right; exact up _ h
        · rw [if_neg h2]; exact (ih b).imp id (up b)
/-- a whole generation has its first segment -/
theorem whole_first {fl : List Fl} {g : Nat} (h : wholeG fl g) : ∃ x, lookF (nmB g 1) fl = some x := by
  cases hl : lookF (nmB g 1) fl with
  | some x => exact ⟨x, rfl⟩
  | none =>
    have : segN fl g 99 1 [] 0 0 = some ([], 0, 0) := by rw [segN, hl]
    unfold wholeG readG at h
    rw [this] at h
    simp [hdrOk] at h
theorem gfN_grN {fl : List Fl} : gfN fl (fl.map Fl.name) 0 = grF fl := by
  unfold grF
  have h1 := grN_max fl (fl.map Fl.name) 0
  have h2 := gfN_max fl (fl.map Fl.name) 0
  have h3 := grN_from fl (fl.map Fl.name) 0
  have h4 : grN fl (fl.map Fl.name) 0 ≤ gfN fl (fl.map Fl.name) 0 := by
    rcases h3 with h | ⟨nm, hm, k, hk⟩
    · omega
    · rcases h1.2.2 with h | hw
      · omega
      · obtain ⟨x, hx⟩ := whole_first hw
        obtain ⟨hx1, hx2⟩ := look_name hx
        have hp := plF_some hk
        exact h2.2.1 x.name (List.mem_map_of_mem hx1) (grN fl (fl.map Fl.name) 0, 1) (by rw [hx2]; exact plF_nm hp.1 hp.2.1 (by omega) (by omega)) rfl hw
  have h5 : ∀ (l : List Bs) (b : Nat), gfN fl l b = b ∨ ∃ nm ∈ l, ∃ p, plF nm = some p ∧ p.1 = gfN fl l b := by
    intro l
    induction l with
    | nil => exact fun b => .inl rfl
    | cons nm r ih =>
      intro b
      have up : ∀ b, (∃ nm ∈ r, ∃ p, plF nm = some p ∧ p.1 = gfN fl r b) → ∃ x ∈ nm :: r, ∃ p, plF x = some p ∧ p.1 = gfN fl r b := fun b ⟨x, hx, h⟩ => ⟨x, List.mem_cons_of_mem _ hx, h⟩
      unfold gfN
      cases hp : plF nm with
      | none => exact (ih b).imp id (up b)
      | some p =>
        simp only
        by_cases h1 : p.2 ≠ 1 ∨ p.1 ≤ b
        · rw [if_pos h1]; exact (ih b).imp id (up b)
        · rw [if_neg h1]
          by_cases h2 : (readG fl p.1).2.2.2 = true
          · rw [if_pos h2]
            rcases ih p.1 with h | h
            · right; rw [h]; exact ⟨nm, List.mem_cons_self .., p, hp, rfl⟩
            · right; exact up _ h
          · rw [if_neg h2]; exact (ih b).imp id (up b)
  refine Nat.le_antisymm ?_ h4
  rcases h5 (fl.map Fl.name) 0 with h | ⟨nm, hm, p, hp, hg⟩
  · omega
  · rcases h2.2.2 with h | hw
    · omega
    · rw [← hg] at hw ⊢
      exact h1.2.1 nm hm p hp hw
/-- how far the last segment was read; -1: whole -/
def rdE (fl : List Fl) (r : List Bs × (Nat × Nat) × Nat × Bool) : Int := if r.2.2.1 < (rdB (lookF (nmB r.2.1.1 r.2.1.2) fl)).length then (r.2.2.1 : Nat) else -1
end Go.Fw
namespace Go.Fw
open Go.Proofs
/-! Torn frames. Plain. -/
/-- a generation whose last segment is torn -/
structure TornR (n : Nat) (was came : List Bs) (lp : List (List Bs)) (lb : List Bs) : Prop where
  flat : lp.flatten ++ lb = numB (n : Nat) :: was
  first : ∀ l r, lp ++ [lb] = l :: r → l ≠ []
  okw : ∀ p ∈ was, okR p
  okc : ∀ p ∈ came, okR p
  nn : n ≤ was.length
  nb : n < 1000000000
end Go.Fw
namespace Go.Fw
open Go.Proofs
/-! What Open leaves, whatever the power. Plain. -/
theorem cut_any {D : Dk} (ho : D.off = false) (hs : Srt D.fl) {nm : Bs} {f : Fl} (hl : lookF nm D.fl = some f) {n : Nat} (hn : n ≤ f.b.length) :
    ((powF D).2 ≠ 0 ∧ cutF nm n D = powF D) ∨ ((powF D).2 = 0 ∧ ∃ F, cutF nm n D = ({ (powF D).1 with fl := F }, 0) ∧ Srt F ∧ (∀ nm', lookF nm' F = if nm' = nm then some (cutT n f) else lookF nm' D.fl) ∧ F.map Fl.name = D.fl.map Fl.name ∧ tot F ≤ tot D.fl) := by
  have hla : lenAt D.fl (findF nm D.fl 0).1 = f.b.length := by
    unfold lenAt
    have h1 := hl
    unfold lookF at h1
    split at h1
    · rw [h1]; rfl
    · cases h1
  unfold cutF
  rw [known_ok ho hl, if_neg (by simp), if_neg (by simp only; omega)]
  by_cases hp : (powF D).2 = 0
  · refine .inr ⟨hp, D.fl.modify (findF nm D.fl 0).1 (cutT n), by rw [if_neg (by simp [hp])], srt_upd (nm := nm) (g := cutT n) (fun f => rfl) hs _, fun nm' => ?_, names_modify _ _ _ fun f => rfl, tot_mod _ _ _ fun f => by simp [cutT]; omega⟩
    rw [look_upd (g := cutT n) (fun f => rfl) hs (by rw [hl]; rfl), hl]; rfl
  · exact .inl ⟨hp, by rw [if_pos hp]⟩
/-- the last segment is another one -/
theorem Gen.upd {fl F : List Fl} {g : Nat} {init : List Bs} {x y : Bs} (G : Gen fl g (init ++ [x])) (hg : g < 100) (hK : init.length + 1 < 99) (hs : Srt F) (hl : ∀ nm', lookF nm' F = if nm' = nmB g (init.length + 1) then some ⟨nmB g (init.length + 1), y, y.length⟩ else lookF nm' fl) (hn : F.map Fl.name = fl.map Fl.name) : Gen F g (init ++ [y]) := by
  refine ⟨hs, fun k hk => ?_, fun z hz => ?_⟩
  · rw [hl]
    rw [List.length_append, List.length_singleton] at hk
    by_cases e : k = init.length
    · subst e
      rw [if_pos rfl]
      simp
    · have hk2 : k < init.length := by omega
      rw [if_neg (fun h => e (by have := (nmB_inj hg (by omega) hg (by omega) h).2; omega)), List.getElem_append_left hk2]
      have := G.seg k (by simp; omega)
      rw [List.getElem_append_left hk2] at this
      exact this
  · obtain ⟨w, hw, e⟩ := names_mem hn hz
    obtain ⟨k, hk, e2⟩ := G.only w hw
    exact ⟨k, by simpa using hk, e ▸ e2⟩
end Go.Fw
namespace Go.Fw
open Go.Proofs
/-! A second Open changes nothing. Plain. -/
theorem nextF_take {b p : Bs} {n : Nat} (h : nextF b = some (p, n)) {k : Nat} (hk : n ≤ k) : nextF (b.take k) = some (p, n) := by
  rw [nextF_eq] at h
  by_cases h1 : b.length < 2
  · rw [if_pos h1] at h; cases h
  rw [if_neg h1] at h
  by_cases h2 : ofLe (b.take 2) = 0 ∨ 16384 < ofLe (b.take 2)
  · rw [if_pos h2] at h; cases h
  rw [if_neg h2] at h
  by_cases h3 : b.length < 2 + ofLe (b.take 2) + 4
  · rw [if_pos h3] at h; cases h
  rw [if_neg h3] at h
  by_cases h4 : ofLe ((b.drop (2 + ofLe (b.take 2))).take 4) ≠ crcO (b.take (2 + ofLe (b.take 2)))
  · rw [if_pos h4] at h; cases h
  rw [if_neg h4] at h
  have hn : 2 + ofLe (b.take 2) + 4 = n := by injection h with h; exact (Prod.mk.injEq .. ▸ h).2
  have t2 : (b.take k).take 2 = b.take 2 := by rw [List.take_take, Nat.min_eq_left (by omega)]
  have tn : (b.take k).take (2 + ofLe (b.take 2)) = b.take (2 + ofLe (b.take 2)) := by rw [List.take_take, Nat.min_eq_left (by omega)]
  have td : ((b.take k).drop (2 + ofLe (b.take 2))).take 4 = (b.drop (2 + ofLe (b.take 2))).take 4 := by
    rw [List.drop_take, List.take_take, Nat.min_eq_left (by omega)]
  have te : ((b.take k).drop 2).take (ofLe (b.take 2)) = (b.drop 2).take (ofLe (b.take 2)) := by
    rw [List.drop_take, List.take_take, Nat.min_eq_left (by omega)]
  have hl : (b.take k).length = min k b.length := List.length_take ..
  rw [nextF_eq, t2, tn, td, te, if_neg (by omega), if_neg h2, if_neg (by omega), if_neg h4]
  exact h
theorem scan_take : ∀ (n : Nat) (b : Bs), b.length ≤ n → scanF (b.take (scanF b).2) = scanF b := by
  intro n
  induction n with
  | zero =>
    intro b hb
    have : b = [] := List.eq_nil_of_length_eq_zero (by omega)
    subst this; simp
  | succ n ih =>
    intro b hb
    cases h : nextF b with
    | none => rw [scanF_none h, List.take_zero, scanF_nil]
    | some q =>
      obtain ⟨p, k⟩ := q
      have hp := nextF_pos h
      rw [scanF_some h]
      have h2 := nextF_take h (k := k + (scanF (b.drop k)).2) (by omega)
      rw [scanF_some h2, List.drop_take, Nat.add_sub_cancel_left, ih (b.drop k) (by rw [List.length_drop]; omega)]
theorem segN_cut {fl fl' : List Fl} {g : Nat} {r : List Bs × Nat × Nat} : ∀ f k all lk size, segN fl g f k all lk size = some r → lk + 1 = k → r.2.1 + 1 < k + f →
    (∀ j, k ≤ j → j < r.2.1 → (lookF (nmB g j) fl').map Fl.b = (lookF (nmB g j) fl).map Fl.b) → (k ≤ r.2.1 → ∃ x x', lookF (nmB g r.2.1) fl = some x ∧ lookF (nmB g r.2.1) fl' = some x' ∧ x'.b = x.b.take r.2.2) →
    lookF (nmB g (r.2.1 + 1)) fl' = none → segN fl' g f k all lk size = some r
  | 0, k, all, lk, size, h, hk, hf, _, _, _ => by
    rw [segN] at h ⊢; exact h
  | f + 1, k, all, lk, size, h, hk, hf, h1, h2, h3 => by
    have hok := segN_ok fl g (f + 1) k all lk size r h
    rw [segN] at h
    cases hl : lookF (nmB g k) fl with
    | none =>
      rw [hl] at h
      simp only [Option.some.injEq] at h
      subst h
      simp only at h3
      rw [hk] at h3
      rw [segN, h3]
    | some x =>
      rw [hl] at h
      simp only at h
      by_cases hz : k = 1 ∧ (scanF x.b).1 = []
      · rw [if_pos hz] at h; cases h
      rw [if_neg hz] at h
      by_cases ha : (scanF x.b).2 < x.b.length
      · rw [if_pos ha] at h
        simp only [Option.some.injEq] at h
        subst h
        simp only at h2 h3
        obtain ⟨y, x', hy, hx', e⟩ := h2 (Nat.le_refl _)
        rw [hl] at hy; cases hy
        have hs : scanF x'.b = scanF x.b := by rw [e]; exact scan_take _ x.b (Nat.le_refl _)
        have hlen : x'.b.length = (scanF x.b).2 := by rw [e, List.length_take]; omega
        rw [segN, hx']
        simp only [hs]
        rw [if_neg hz, if_neg (by omega)]
        cases f with
        | zero => rw [segN]
        | succ f => rw [segN, h3]
      · rw [if_neg ha] at h
        have hok2 := segN_ok fl g f (k + 1) _ _ _ r h
        have hge : k ≤ r.2.1 := by omega
        have hxb : ∃ x', lookF (nmB g k) fl' = some x' ∧ x'.b = x.b := by
          by_cases he : k < r.2.1
          · have := h1 k (Nat.le_refl _) he
            rw [hl] at this
            cases hx' : lookF (nmB g k) fl' with
            | none => rw [hx'] at this; cases this
            | some x' => rw [hx'] at this; exact ⟨x', rfl, by simpa using this⟩
          · have e : r.2.1 = k := by omega
            obtain ⟨y, x', hy, hx', e2⟩ := h2 (by omega)
            rw [e, hl] at hy; cases hy
            rw [e] at hx'
            refine ⟨x', hx', ?_⟩
            have hsz : r.2.2 = (scanF x.b).2 := by omega
            rw [e2, hsz, List.take_of_length_le (by omega)]
        obtain ⟨x', hx', e⟩ := hxb
        rw [segN, hx']
        simp only [e]
        rw [if_neg hz, if_neg ha]
        exact segN_cut f (k + 1) _ _ _ h rfl (by omega) (fun j hj hj2 => h1 j (by omega) hj2) (fun h' => h2 (by omega)) h3
/-! what stays through the changes -/
structure Pres (D D' : Dk) : Prop where
  srt : Srt D.fl → Srt D'.fl
  nm : ∀ y ∈ D'.fl, ∃ x ∈ D.fl, x.name = y.name
  kp : (∀ x ∈ D.fl, x.kept ≤ x.b.length) → ∀ y ∈ D'.fl, y.kept ≤ y.b.length
  tt : tot D'.fl ≤ tot D.fl
  qt : D'.quota = D.quota
  lf : D'.left ≤ D.left
  ln : D'.fl.length ≤ D.fl.length
theorem Pres.refl (D : Dk) : Pres D D := ⟨id, fun y hy => ⟨y, hy, rfl⟩, id, Nat.le_refl _, rfl, Nat.le_refl _, Nat.le_refl _⟩
theorem Pres.trans {A B C : Dk} (h : Pres A B) (g : Pres B C) : Pres A C :=
  ⟨fun s => g.srt (h.srt s), fun y hy => by
    obtain ⟨x, hx, e⟩ := g.nm y hy
    obtain ⟨z, hz, e2⟩ := h.nm x hx
    exact ⟨z, hz, e2.trans e⟩, fun k => g.kp (h.kp k), Nat.le_trans g.tt h.tt, g.qt.trans h.qt, Nat.le_trans g.lf h.lf, Nat.le_trans g.ln h.ln⟩
theorem pres_pow (D : Dk) : Pres D (powF D).1 := by
  have h1 := powF_fl D
  have h2 := powF_le D
  exact ⟨fun s => by rw [h1]; exact s, fun y hy => by rw [h1] at hy; exact ⟨y, hy, rfl⟩, fun k y hy => by rw [h1] at hy; exact k y hy, by rw [h1]; exact Nat.le_refl _, h2.2.1, h2.1, by rw [h1]; exact Nat.le_refl _⟩
theorem pres_mod (D : Dk) (i : Nat) (g : Fl → Fl) (hn : ∀ f, (g f).name = f.name) (hb : ∀ f, (g f).b.length ≤ f.b.length) (hk : ∀ f, f.kept ≤ f.b.length → (g f).kept ≤ (g f).b.length) : Pres D { (powF D).1 with fl := D.fl.modify i g } := by
  have h2 := powF_le D
  refine ⟨fun s => srt_upd (nm := []) (g := g) hn s i, fun y hy => ?_, fun k y hy => ?_, tot_mod _ _ _ hb, h2.2.1, h2.1, by simp⟩
  · obtain ⟨x, hx, e⟩ := mem_upd (nm := []) hy
    rcases e with rfl | rfl
    · exact ⟨y, hx, rfl⟩
    · exact ⟨x, hx, (hn x).symm⟩
  · obtain ⟨x, hx, e⟩ := mem_upd (nm := []) hy
    rcases e with rfl | rfl
    · exact k y hx
    · exact hk x (k x hx)
theorem pres_sync (nm : Bs) (D : Dk) : Pres D (syncF nm D).1 := by
  unfold syncF
  split
  · exact Pres.refl D
  split
  · exact pres_pow D
  · exact pres_mod D _ keptF (fun _ => rfl) (fun _ => Nat.le_refl _) (fun _ _ => Nat.le_refl _)
theorem pres_cut (nm : Bs) (n : Nat) (D : Dk) : Pres D (cutF nm n D).1 := by
  unfold cutF
  split
  · exact Pres.refl D
  split
  · exact Pres.refl D
  split
  · exact pres_pow D
  · exact pres_mod D _ (cutT n) (fun _ => rfl) (fun f => by simp [cutT]; omega) (fun f h => by simp [cutT]; omega)
theorem pres_rm (nm : Bs) (D : Dk) : Pres D (rmF nm D).1 := by
  unfold rmF
  split
  · exact Pres.refl D
  split
  · exact pres_pow D
  · have h2 := powF_le D
    exact ⟨fun s => srt_del s _, fun y hy => ⟨y, (List.eraseIdx_sublist ..).subset hy, rfl⟩, fun k y hy => k y ((List.eraseIdx_sublist ..).subset hy), tot_erase _ _, h2.2.1, h2.1, (List.eraseIdx_sublist ..).length_le⟩
theorem pres_cl (last : Nat × Nat) : ∀ (l : List Bs) (D : Dk), Pres D (clN last l D).1
  | [], D => Pres.refl D
  | nm :: r, D => by
    have h3 := pres_cl last r (rmF nm D).1
    unfold clN
    cases plF nm with
    | none => exact pres_cl last r D
    | some p =>
      simp only
      split
      · exact pres_cl last r D
      split
      · exact pres_rm nm D
      · exact (pres_rm nm D).trans h3
theorem opF_eq (D : Dk) (hg : grF D.fl ≠ 0) (r : List Bs × (Nat × Nat) × Nat × Bool) (hr : readG D.fl (grF D.fl) = r) (c : Dk × Nat) (hc : (if r.2.2.1 < (rdB (lookF (nmB r.2.1.1 r.2.1.2) D.fl)).length then cutF (nmB r.2.1.1 r.2.1.2) r.2.2.1 D else (D, 0)) = c) :
    opF D = if c.2 ≠ 0 then ((none, []), c) else if (clF r.2.1 c.1).2 ≠ 0 then ((none, []), clF r.2.1 c.1) else if (syncF (nmB r.2.1.1 r.2.1.2) (clF r.2.1 c.1).1).2 ≠ 0 then ((none, []), syncF (nmB r.2.1.1 r.2.1.2) (clF r.2.1 c.1).1)
      else ((some ⟨r.2.1.1, r.2.1.2, false⟩, r.1), (syncF (nmB r.2.1.1 r.2.1.2) (clF r.2.1 c.1).1).1, 0) := by
  subst hr hc
  unfold opF
  rw [if_neg hg]
theorem pres_op (D : Dk) : Pres D (opF D).2.1 := by
  have h0 := pres_cl (0, 0) (D.fl.map Fl.name) D
  by_cases hg : grF D.fl = 0
  · unfold opF
    rw [if_pos hg]
    split
    · exact h0
    · exact h0
  · rw [opF_eq D hg _ rfl _ rfl]
    generalize readG D.fl (grF D.fl) = r
    have hc : Pres D (if r.2.2.1 < (rdB (lookF (nmB r.2.1.1 r.2.1.2) D.fl)).length then cutF (nmB r.2.1.1 r.2.1.2) r.2.2.1 D else (D, 0)).1 := by
      split
      · exact pres_cut _ _ D
      · exact Pres.refl D
    generalize (if r.2.2.1 < (rdB (lookF (nmB r.2.1.1 r.2.1.2) D.fl)).length then cutF (nmB r.2.1.1 r.2.1.2) r.2.2.1 D else (D, 0)) = c at *
    have hk : Pres D (clF r.2.1 c.1).1 := hc.trans (pres_cl r.2.1 (c.1.fl.map Fl.name) c.1)
    have hs := hk.trans (pres_sync (nmB r.2.1.1 r.2.1.2) (clF r.2.1 c.1).1)
    split
    · exact hc
    split
    · exact hk
    split
    · exact hs
    · exact hs
/-- a working disk is cleaned -/
def goes (last : Nat × Nat) (nm : Bs) : Prop := ∃ p, plF nm = some p ∧ ¬ (p.1 = last.1 ∧ p.2 ≤ last.2)
theorem cl_ok (last : Nat × Nat) : ∀ (l : List Bs) (D : Dk), Okd D → l.Nodup → (∀ nm ∈ l, ∃ x, lookF nm D.fl = some x) →
    ∃ F, clN last l D = ({ D with fl := F }, 0) ∧ Srt F ∧ (∀ nm', (nm' ∈ l ∧ goes last nm' → lookF nm' F = none) ∧ (¬ (nm' ∈ l ∧ goes last nm') → lookF nm' F = lookF nm' D.fl)) ∧ (∀ y ∈ F, y ∈ D.fl)
  | [], D, h, _, _ => ⟨D.fl, rfl, h.srt, fun nm' => ⟨fun h => by simp at h, fun _ => rfl⟩, fun y hy => hy⟩
  | nm :: r, D, h, hd, hl => by
    obtain ⟨hd1, hd2⟩ := List.nodup_cons.1 hd
    have stay : ¬ goes last nm → ∃ F, clN last r D = ({ D with fl := F }, 0) ∧ Srt F ∧ (∀ nm', (nm' ∈ nm :: r ∧ goes last nm' → lookF nm' F = none) ∧ (¬ (nm' ∈ nm :: r ∧ goes last nm') → lookF nm' F = lookF nm' D.fl)) ∧ (∀ y ∈ F, y ∈ D.fl) := fun hn => by
      obtain ⟨F, e, hs, hL, hm⟩ := cl_ok last r D h hd2 fun x hx => hl x (List.mem_cons_of_mem _ hx)
      refine ⟨F, e, hs, fun nm' => ⟨fun ⟨h1, h2⟩ => ?_, fun h1 => ?_⟩, hm⟩
      · rcases List.mem_cons.1 h1 with rfl | h1
        · exact absurd h2 hn
        · exact (hL nm').1 ⟨h1, h2⟩
      · exact (hL nm').2 fun ⟨h2, h3⟩ => h1 ⟨List.mem_cons_of_mem _ h2, h3⟩
    unfold clN
    cases hp : plF nm with
    | none => exact stay fun ⟨p, h1, _⟩ => by rw [hp] at h1; cases h1
    | some p =>
      simp only
      by_cases hk : p.1 = last.1 ∧ p.2 ≤ last.2
      · rw [if_pos hk]
        exact stay fun ⟨q, h1, h2⟩ => by rw [hp] at h1; cases h1; exact h2 hk
      · rw [if_neg hk]
        obtain ⟨x, hx⟩ := hl nm (List.mem_cons_self ..)
        obtain ⟨F1, e1, hs1, hL1, _, hm1⟩ := rm_up h hx
        rw [e1, if_neg (by simp)]
        obtain ⟨F, e, hs, hL, hm⟩ := cl_ok last r { D with fl := F1 } (h.with hs1) hd2 fun y hy => by
          obtain ⟨z, hz⟩ := hl y (List.mem_cons_of_mem _ hy)
          exact ⟨z, by show lookF y F1 = _; rw [hL1, if_neg (fun e => by subst e; exact hd1 hy), hz]⟩
        refine ⟨F, e, hs, fun nm' => ⟨fun ⟨h1, h2⟩ => ?_, fun h1 => ?_⟩, fun y hy => hm1 y (hm y hy)⟩
        · by_cases hr : nm' ∈ r
          · exact (hL nm').1 ⟨hr, h2⟩
          · rw [(hL nm').2 fun h3 => hr h3.1]
            show lookF nm' F1 = none
            rcases List.mem_cons.1 h1 with rfl | h1
            · rw [hL1, if_pos rfl]
            · exact absurd h1 hr
        · rw [(hL nm').2 fun h3 => h1 ⟨List.mem_cons_of_mem _ h3.1, h3.2⟩]
          show lookF nm' F1 = lookF nm' D.fl
          rw [hL1, if_neg]
          rintro rfl
          exact h1 ⟨List.mem_cons_self .., p, hp, hk⟩
theorem srt_nod {l : List Fl} (h : Srt l) : (l.map Fl.name).Nodup := h.imp (S := (· ≠ ·)) (by intro a b h e; rw [e, bl_irr] at h; cases h)
theorem look_all {l : List Fl} (h : Srt l) : ∀ nm ∈ l.map Fl.name, ∃ x, lookF nm l = some x := fun nm hnm => by
  obtain ⟨x, hx, rfl⟩ := List.mem_map.1 hnm
  exact ⟨x, mem_look h hx⟩
theorem clF_ok (last : Nat × Nat) {D : Dk} (h : Okd D) : ∃ F, clF last D = ({ D with fl := F }, 0) ∧ Srt F ∧ (∀ nm', (goes last nm' → lookF nm' F = none) ∧ (¬ goes last nm' → lookF nm' F = lookF nm' D.fl)) ∧ (∀ y ∈ F, y ∈ D.fl) := by
  obtain ⟨F, e, hs, hL, hm⟩ := cl_ok last (D.fl.map Fl.name) D h (srt_nod h.srt) (look_all h.srt)
  refine ⟨F, e, hs, fun nm' => ⟨fun hg => ?_, fun hg => (hL nm').2 fun h2 => hg h2.2⟩, hm⟩
  by_cases hr : nm' ∈ D.fl.map Fl.name
  · exact (hL nm').1 ⟨hr, hg⟩
  · rw [(hL nm').2 fun h => hr h.1]
    cases hx : lookF nm' D.fl with
    | none => rfl
    | some x => exact absurd (by have := look_name hx; rw [← this.2]; exact List.mem_map_of_mem this.1) hr
/-- nothing to clean -/
theorem clN_none (last : Nat × Nat) (D : Dk) : ∀ (l : List Bs), (∀ nm ∈ l, ¬ goes last nm) → clN last l D = (D, 0)
  | [], _ => rfl
  | nm :: r, h => by
    have ih := clN_none last D r fun x hx => h x (List.mem_cons_of_mem _ hx)
    have h0 := h nm (List.mem_cons_self ..)
    unfold clN
    cases hp : plF nm with
    | none => exact ih
    | some p =>
      simp only
      by_cases hk : p.1 = last.1 ∧ p.2 ≤ last.2
      · rw [if_pos hk]; exact ih
      · exact absurd ⟨p, hp, hk⟩ h0
theorem not_goes {F : List Fl} {last : Nat × Nat} (hs : Srt F) (hL : ∀ nm', goes last nm' → lookF nm' F = none) : ∀ nm ∈ F.map Fl.name, ¬ goes last nm := fun nm hnm hg => by
  obtain ⟨x, hx⟩ := look_all hs nm hnm
  rw [hL nm hg] at hx; cases hx
end Go.Fw
namespace Go.Fw
open Go.Proofs
theorem segN_end (fl : List Fl) (g : Nat) (r : List Bs × Nat × Nat) : ∀ f k all lk size, segN fl g f k all lk size = some r → lk + 1 = k →
    (r = (all, lk, size)) ∨ (k ≤ r.2.1 ∧ (∃ x, lookF (nmB g r.2.1) fl = some x ∧ r.2.2 = (scanF x.b).2 ∧ (r.2.2 < x.b.length ∨ r.2.1 + 1 = k + f ∨ lookF (nmB g (r.2.1 + 1)) fl = none)) ∧ ∀ j, k ≤ j → j ≤ r.2.1 → ∃ x, lookF (nmB g j) fl = some x)
  | 0, k, all, lk, size, h, hk => by
    rw [segN] at h; exact .inl (Option.some.inj h).symm
  | f + 1, k, all, lk, size, h, hk => by
    rw [segN] at h
    cases hl : lookF (nmB g k) fl with
    | none =>
      rw [hl] at h
      exact .inl (Option.some.inj h).symm
    | some x =>
      rw [hl] at h
      simp only at h
      right
      split at h
      · cases h
      split at h
      · rename_i ha
        have := Option.some.inj h
        subst this
        exact ⟨Nat.le_refl _, ⟨x, hl, rfl, .inl ha⟩, fun j h1 h2 => by
          have : j = k := Nat.le_antisymm h2 h1
          subst this; exact ⟨x, hl⟩⟩
      · rename_i ha
        rcases segN_end fl g r f (k + 1) _ _ _ h rfl with e | ⟨h1, ⟨y, hy, hs, hor⟩, h3⟩
        · subst e
          refine ⟨Nat.le_refl _, ⟨x, hl, rfl, ?_⟩, fun j h1 h2 => ?_⟩
          · right
            cases f with
            | zero => exact .inl rfl
            | succ f =>
              right
              rw [segN] at h
              cases hl2 : lookF (nmB g (k + 1)) fl with
              | none => rfl
              | some y =>
                rw [hl2] at h
                simp only at h
                rw [if_neg (by omega)] at h
                split at h
                · have := Option.some.inj h
                  have := congrArg (fun q => q.2.1) this
                  simp at this
                · have := segN_ok fl g f (k + 1 + 1) _ _ _ _ h
                  simp only at this; omega
          · have : j = k := Nat.le_antisymm h2 h1
            subst this; exact ⟨x, hl⟩
        · refine ⟨by omega, ⟨y, hy, hs, ?_⟩, fun j h4 h5 => ?_⟩
          · rcases hor with h6 | h6 | h6
            · exact .inl h6
            · exact .inr (.inl (by omega))
            · exact .inr (.inr h6)
          · by_cases e : j = k
            · subst e; exact ⟨x, hl⟩
            · exact h3 j (by omega) h5
/-- what a whole generation is -/
theorem whole_seg {fl : List Fl} {g : Nat} (h : wholeG fl g) (h99 : lookF (nmB g 99) fl = none) : ∃ all lk size x, segN fl g 99 1 [] 0 0 = some (all, lk, size) ∧ readG fl g = (all.tail, (g, lk), size, true) ∧ hdrOk all = true ∧ 0 < lk ∧ lk < 99 ∧
    lookF (nmB g lk) fl = some x ∧ size = (scanF x.b).2 ∧ (size < x.b.length ∨ lookF (nmB g (lk + 1)) fl = none) ∧ ∀ j, 1 ≤ j → j ≤ lk → ∃ x, lookF (nmB g j) fl = some x := by
  unfold wholeG readG at h
  cases hs : segN fl g 99 1 [] 0 0 with
  | none => rw [hs] at h; cases h
  | some r =>
    obtain ⟨all, lk, size⟩ := r
    rw [hs] at h
    simp only at h
    have hh : hdrOk all = true := by
      cases e : hdrOk all with
      | true => rfl
      | false => rw [e] at h; cases h
    rcases segN_end fl g _ 99 1 _ _ _ hs rfl with e | ⟨h1, ⟨x, hx, hsz, hor⟩, h3⟩
    · cases e; cases hh
    · simp only at h1 hx hsz hor h3
      have hlk := segN_ok fl g 99 1 _ _ _ _ hs
      simp only at hlk
      have h98 : lk ≠ 99 := by rintro rfl; rw [h99] at hx; cases hx
      refine ⟨all, lk, size, x, rfl, ?_, hh, by omega, by omega, hx, hsz, ?_, h3⟩
      · unfold readG
        rw [hs]
        simp only
        rw [if_pos hh]
        unfold plC
        rw [if_neg (by omega)]
      · rcases hor with h | h | h
        · exact .inl h
        · omega
        · exact .inr h
abbrev nb (f : Fl) : Bs × Bs := (f.name, f.b)
theorem nb_eq {F F' : List Fl} (h : Srt F) (h' : Srt F') (hn : F'.map Fl.name = F.map Fl.name) (hL : ∀ nm, (lookF nm F').map Fl.b = (lookF nm F).map Fl.b) : F'.map nb = F.map nb := by
  have hl : F'.length = F.length := by have := congrArg List.length hn; simpa using this
  refine List.ext_getElem? fun i => ?_
  rw [List.getElem?_map, List.getElem?_map]
  by_cases hi : i < F.length
  · have h1 : F[i]? = some F[i] := List.getElem?_eq_getElem hi
    have h2 : F'[i]? = some (F'[i]'(by omega)) := List.getElem?_eq_getElem (by omega)
    have h3 : (F'[i]'(by omega)).name = F[i].name := by
      have := congrArg (fun l => l[i]?) hn
      simp only [List.getElem?_map, h1, h2, Option.map_some, Option.some.injEq] at this
      exact this
    have h4 := mem_look h (List.getElem_mem hi)
    have h5 := mem_look h' (List.getElem_mem (l := F') (by omega : i < F'.length))
    have h6 := hL F[i].name
    rw [h4, ← h3, h5] at h6
    have h6 : (F'[i]'(by omega)).b = F[i].b := Option.some.inj h6
    rw [h1, h2]
    simp only [Option.map_some, nb, h3, h6]
  · rw [List.getElem?_eq_none (by omega), List.getElem?_eq_none (by omega)]
theorem grN_zero {F : List Fl} {last : Nat × Nat} (hng : ∀ nm ∈ F.map Fl.name, ¬ goes last nm) : grF F = 0 ∨ grF F = last.1 := by
  rcases grN_from F (F.map Fl.name) 0 with h | ⟨nm, hm, k, hk⟩
  · exact .inl h
  · right
    have := hng nm hm
    by_cases e : grF F = last.1
    · exact e
    · exact absurd ⟨_, hk, fun h2 => e h2.1⟩ this
/-- a working disk is opened; a second time it stays -/
theorem opF_two {D : Dk} (h : Okd D) (h99 : ∀ g, g < 100 → lookF (nmB g 99) D.fl = none) : ∃ W l F, opF D = ((some W, l), { D with fl := F }, 0) ∧ Srt F ∧
    ∃ W2 F2, opF { D with fl := F } = ((some W2, l), { D with fl := F2 }, 0) ∧ F2.map nb = F.map nb := by
  by_cases hg : grF D.fl = 0
  · obtain ⟨F, e, hs, hL, hm⟩ := clF_ok (0, 0) h
    refine ⟨⟨0, 0, false⟩, [], F, ?_, hs, ⟨0, 0, false⟩, F, ?_, rfl⟩
    · unfold opF
      rw [if_pos hg, e, if_neg (by simp)]
    · have hng := not_goes (last := (0, 0)) hs fun nm' => (hL nm').1
      have h0 : grF F = 0 := by rcases grN_zero hng with h | h <;> exact h
      unfold opF
      rw [show ({ D with fl := F } : Dk).fl = F from rfl, if_pos h0]
      unfold clF
      rw [show ({ D with fl := F } : Dk).fl = F from rfl, clN_none (0, 0) _ _ hng, if_neg (by simp)]
  · have hlt : grF D.fl < 100 := grN_lt _ _ _ (by decide)
    have hw : wholeG D.fl (grF D.fl) := by
      rcases (grN_max D.fl (D.fl.map Fl.name) 0).2.2 with h | h
      · exact absurd h hg
      · exact h
    obtain ⟨g, hgg⟩ : ∃ g, g = grF D.fl := ⟨_, rfl⟩
    rw [← hgg] at hlt hw hg
    obtain ⟨all, lk, size, x, hseg, hrd, hhd, hk0, hk99, hx, hsz, hor, hall⟩ := whole_seg hw (h99 g hlt)
    have hg0 : 0 < g := Nat.pos_of_ne_zero hg
    have hlast : plF (nmB g lk) = some (g, lk) := plF_nm hg0 hlt hk0 (by omega)
    have hxs := (scanF_le x.b).2
    have hc : ∃ F1 x1, (if size < x.b.length then cutF (nmB g lk) size D else (D, 0)) = ({ D with fl := F1 }, 0) ∧ Srt F1 ∧ x1.b = x.b.take size ∧ ∀ nm', lookF nm' F1 = if nm' = nmB g lk then some x1 else lookF nm' D.fl := by
      by_cases hlt2 : size < x.b.length
      · rw [if_pos hlt2]
        have hp : (powF D).2 = 0 := by rw [powF_ok h.arm]
        rcases cut_any h.off h.srt hx (n := size) (by omega) with ⟨h1, _⟩ | ⟨_, F1, e, hs, hL, _, _⟩
        · exact absurd hp h1
        · rw [powF_ok h.arm] at e
          exact ⟨F1, _, e, hs, rfl, hL⟩
      · rw [if_neg hlt2]
        refine ⟨D.fl, x, rfl, h.srt, by rw [List.take_of_length_le (by omega)], fun nm' => ?_⟩
        split
        · rename_i e; rw [e, hx]
        · rfl
    obtain ⟨F1, x1, ec, hs1, hx1, hL1⟩ := hc
    obtain ⟨F2, ek, hs2, hL2, hm2⟩ := clF_ok (g, lk) (h.with hs1)
    have ngl : ∀ j, 0 < j → j ≤ lk → ¬ goes (g, lk) (nmB g j) := fun j h1 h2 ⟨p, hp, hn⟩ => by
      rw [plF_nm hg0 hlt h1 (by omega)] at hp; cases hp; exact hn ⟨rfl, h2⟩
    have hx2 : lookF (nmB g lk) F2 = some x1 := by
      rw [(hL2 _).2 (ngl lk hk0 (Nat.le_refl _))]
      show lookF _ F1 = _
      rw [hL1, if_pos rfl]
    obtain ⟨F3, es, hs3, hL3, ht3, hn3⟩ := sync_up ((h.with hs1).with hs2) hx2
    have hgone : ∀ nm', goes (g, lk) nm' → lookF nm' F3 = none := fun nm' hg' => by
      have h2 := (hL2 nm').1 hg'
      rw [hL3]
      split
      · rename_i e; rw [e, hx2] at h2; cases h2
      · exact h2
    have hlook : ∀ j, 0 < j → j < lk → lookF (nmB g j) F3 = lookF (nmB g j) D.fl := fun j h1 h2 => by
      have hne : nmB g j ≠ nmB g lk := fun e => by have := (nmB_inj hlt (by omega) hlt (by omega) e).2; omega
      rw [hL3, if_neg hne]
      show lookF _ F2 = _
      rw [(hL2 _).2 (ngl j h1 (by omega))]
      show lookF _ F1 = _
      rw [hL1, if_neg hne]
    have hx3 : lookF (nmB g lk) F3 = some (keptF x1) := by rw [hL3, if_pos rfl]
    have hseg3 : segN F3 g 99 1 [] 0 0 = some (all, lk, size) := segN_cut 99 1 [] 0 0 hseg rfl (by simp only; omega) (fun j h1 h2 => by rw [hlook j (by omega) h2])
      (fun _ => ⟨x, keptF x1, hx, hx3, hx1⟩) (hgone _ ⟨_, plF_nm hg0 hlt (by omega) (by simp only; omega), fun h2 => by have := h2.2; simp only at this; omega⟩)
    have hrd3 : readG F3 g = (all.tail, (g, lk), size, true) := by
      unfold readG
      rw [hseg3]
      simp only
      rw [if_pos hhd]
      unfold plC
      rw [if_neg (by omega)]
    have hng := not_goes hs3 hgone
    have hgr3 : grF F3 = g := by
      rcases grN_zero hng with h1 | h1
      · exfalso
        have hm := (grN_max F3 (F3.map Fl.name) 0).2.1
        have hf : ∃ y, lookF (nmB g 1) F3 = some y := by
          by_cases e : lk = 1
          · rw [← e]; exact ⟨_, hx3⟩
          · obtain ⟨y, hy⟩ := hall 1 (by omega) hk0
            exact ⟨y, by rw [hlook 1 (by omega) (by omega), hy]⟩
        obtain ⟨y, hy⟩ := hf
        obtain ⟨hy1, hy2⟩ := look_name hy
        have h2 := hm y.name (List.mem_map_of_mem hy1) (g, 1) (by rw [hy2]; exact plF_nm hg0 hlt (by omega) (by omega)) (by unfold wholeG; rw [hrd3])
        unfold grF at h1
        rw [h1] at h2
        simp only at h2; omega
      · exact h1
    obtain ⟨F4, es4, hs4, hL4, ht4, hn4⟩ := sync_up (((h.with hs1).with hs2).with hs3) hx3
    refine ⟨⟨g, lk, false⟩, all.tail, F3, ?_, hs3, ⟨g, lk, false⟩, F4, ?_, nb_eq hs3 hs4 hn4 fun nm => ?_⟩
    · have hrx : rdB (lookF (nmB g lk) D.fl) = x.b := by rw [hx]; rfl
      unfold opF
      rw [← hgg, if_neg hg, hrd]
      simp only [hrx, ec, ek, es, ne_eq, not_true_eq_false, if_false]
    · have hrx : rdB (lookF (nmB g lk) F3) = x.b.take size := by rw [hx3]; exact hx1
      have hnc : ¬ size < (x.b.take size).length := by rw [List.length_take]; omega
      have hcl : clF (g, lk) { D with fl := F3 } = ({ D with fl := F3 }, 0) := clN_none _ _ _ hng
      have es4' : syncF (nmB g lk) { D with fl := F3 } = ({ D with fl := F4 }, 0) := es4
      unfold opF
      rw [show ({ D with fl := F3 } : Dk).fl = F3 from rfl, hgr3, if_neg hg, hrd3]
      simp only [hrx, if_neg hnc, hcl, es4', ne_eq, not_true_eq_false, if_false]
    · rw [hL4]
      split
      · rename_i e; rw [e, hx3]; rfl
      · rfl
end Go.Fw
