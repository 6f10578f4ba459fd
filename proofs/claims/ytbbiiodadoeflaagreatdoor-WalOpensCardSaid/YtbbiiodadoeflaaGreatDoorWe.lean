import Derived.Test.YtbbiiodadoeflaaGreatDoorWd
import Derived.Test.YtbbiiodadoeflaaGreatDoorCd
set_option linter.unusedVariables false
set_option linter.unusedSimpArgs false
namespace Go.Fw
open Go.Proofs
/-! The disk as a map: files by rising names. Plain. -/
theorem bl_irr : ∀ a : Bs, Op.bytesLess a a = false
  | [] => rfl
  | x :: r => by simp [Op.bytesLess, bl_irr r]
theorem bl_trans : ∀ a b c : Bs, Op.bytesLess a b = true → Op.bytesLess b c = true → Op.bytesLess a c = true
  | _, _, [], _, h => by cases ‹Bs› <;> simp [Op.bytesLess] at h
  | _, [], _ :: _, h, _ => by cases ‹Bs› <;> simp [Op.bytesLess] at h
  | [], _ :: _, _ :: _, _, _ => rfl
  | x :: a, y :: b, z :: c, h1, h2 => by
    simp only [Op.bytesLess, Bool.or_eq_true, Bool.and_eq_true, decide_eq_true_eq, beq_iff_eq] at h1 h2 ⊢
    rcases h1 with h1 | ⟨rfl, h1⟩ <;> rcases h2 with h2 | ⟨rfl, h2⟩
    · exact .inl (UInt8.lt_trans h1 h2)
    · exact .inl h1
    · exact .inl h2
    · exact .inr ⟨rfl, bl_trans a b c h1 h2⟩
theorem bl_tri : ∀ a b : Bs, a ≠ b → Op.bytesLess a b = false → Op.bytesLess b a = true
  | [], [], h, _ => absurd rfl h
  | [], _ :: _, _, h => by simp [Op.bytesLess] at h
  | _ :: _, [], _, _ => rfl
  | x :: a, y :: b, h1, h2 => by
    simp only [Op.bytesLess, Bool.or_eq_false_iff, decide_eq_false_iff_not, Bool.and_eq_false_imp, beq_iff_eq] at h2
    simp only [Op.bytesLess, Bool.or_eq_true, Bool.and_eq_true, decide_eq_true_eq, beq_iff_eq]
    by_cases e : x = y
    · subst e
      exact .inr ⟨rfl, bl_tri a b (fun e => h1 (by rw [e])) (h2.2 rfl)⟩
    · refine .inl ?_
      have := h2.1
      rw [UInt8.lt_iff_toNat_lt] at *
      have : x.toNat ≠ y.toNat := fun h => e (UInt8.toNat_inj.1 h)
      omega
def Srt (l : List Fl) : Prop := (l.map Fl.name).Pairwise fun x y => Op.bytesLess x y = true
theorem Srt.cons {x : Fl} {r : List Fl} (h : Srt (x :: r)) : (∀ y ∈ r, Op.bytesLess x.name y.name = true) ∧ Srt r := by
  obtain ⟨h1, h2⟩ := List.pairwise_cons.1 h
  exact ⟨fun y hy => h1 _ (List.mem_map_of_mem hy), h2⟩
theorem findF_shift (nm : Bs) : ∀ (l : List Fl) (i : Nat), findF nm l (i + 1) = ((findF nm l i).1 + 1, (findF nm l i).2)
  | [], i => rfl
  | x :: r, i => by
    unfold findF
    split
    · exact findF_shift nm r (i + 1)
    · rfl
theorem find_cons (nm : Bs) (x : Fl) (r : List Fl) : findF nm (x :: r) 0 = if Op.bytesLess x.name nm then ((findF nm r 0).1 + 1, (findF nm r 0).2) else (0, decide (x.name = nm)) := by
  rw [← findF_shift]; rfl
theorem look_nil (nm : Bs) : lookF nm [] = none := rfl
theorem look_cons (nm : Bs) (x : Fl) (r : List Fl) : lookF nm (x :: r) = if Op.bytesLess x.name nm then lookF nm r else if x.name = nm then some x else none := by
  unfold lookF
  rw [find_cons]
  by_cases h : Op.bytesLess x.name nm = true
  · simp only [if_pos h, List.getElem?_cons_succ]
  · simp only [if_neg h]
    by_cases e : x.name = nm <;> simp [e]
theorem found_look (nm : Bs) (l : List Fl) : (findF nm l 0).2 = (lookF nm l).isSome := by
  unfold lookF
  cases h : (findF nm l 0).2 with
  | false => rfl
  | true =>
    obtain ⟨_, x, hx, _⟩ := findF_ok nm l 0 h
    rw [Nat.sub_zero] at hx
    rw [if_pos rfl, hx]; rfl
theorem look_name {nm : Bs} {l : List Fl} {x : Fl} (h : lookF nm l = some x) : x ∈ l ∧ x.name = nm := by
  unfold lookF at h
  split at h
  · rename_i h1
    obtain ⟨_, y, hy, hn⟩ := findF_ok nm l 0 h1
    rw [Nat.sub_zero, h] at hy
    cases hy
    exact ⟨List.mem_of_getElem? h, hn⟩
  · cases h
theorem mem_look {l : List Fl} (h : Srt l) {x : Fl} (hx : x ∈ l) : lookF x.name l = some x := by
  induction l with
  | nil => cases hx
  | cons y r ih =>
    have hc := h.cons
    rw [look_cons]
    rcases List.mem_cons.1 hx with rfl | hx
    · rw [if_neg (by rw [bl_irr]; simp), if_pos rfl]
    · rw [if_pos (hc.1 x hx), ih hc.2 hx]
/-- a file is turned -/
theorem upd_cons (nm : Bs) (g : Fl → Fl) (x : Fl) (r : List Fl) : (x :: r).modify (findF nm (x :: r) 0).1 g = if Op.bytesLess x.name nm then x :: r.modify (findF nm r 0).1 g else g x :: r := by
  rw [find_cons]
  split
  · simp
  · simp
theorem look_upd {nm : Bs} {g : Fl → Fl} (hg : ∀ f, (g f).name = f.name) : ∀ {l : List Fl}, Srt l → (lookF nm l).isSome → ∀ nm', lookF nm' (l.modify (findF nm l 0).1 g) = if nm' = nm then (lookF nm l).map g else lookF nm' l
  | [], _, hf, _ => by simp [look_nil] at hf
  | x :: r, h, hf, nm' => by
    have hc := h.cons
    rw [look_cons] at hf
    rw [upd_cons, look_cons nm x r]
    by_cases h1 : Op.bytesLess x.name nm = true
    · simp only [if_pos h1] at hf ⊢
      rw [look_cons, look_upd hg hc.2 hf nm', look_cons]
      by_cases e : nm' = nm
      · subst e; simp [h1]
      · simp only [if_neg e]
    · simp only [if_neg h1] at hf ⊢
      by_cases h2 : x.name = nm
      · rw [if_pos h2, look_cons, look_cons, hg]
        by_cases e : nm' = nm
        · subst e; rw [if_pos rfl, if_neg h1, if_pos h2]; rfl
        · rw [if_neg e, if_neg (show ¬ x.name = nm' from fun h => e (h ▸ h2.symm ▸ rfl)), if_neg (show ¬ x.name = nm' from fun h => e (h ▸ h2.symm ▸ rfl))]
      · rw [if_neg h2] at hf; simp at hf
theorem srt_upd {nm : Bs} {g : Fl → Fl} (hg : ∀ f, (g f).name = f.name) {l : List Fl} (h : Srt l) (i : Nat) : Srt (l.modify i g) := by
  unfold Srt; rw [names_modify l i g hg]; exact h
theorem tot_upd (nm : Bs) (g : Fl → Fl) : ∀ (l : List Fl) (x : Fl), lookF nm l = some x → tot (l.modify (findF nm l 0).1 g) + x.b.length = tot l + (g x).b.length
  | [], x, h => by simp [look_nil] at h
  | y :: r, x, h => by
    rw [look_cons] at h
    rw [upd_cons]
    by_cases h1 : Op.bytesLess y.name nm = true
    · rw [if_pos h1] at h ⊢
      have := tot_upd nm g r x h
      simp only [tot, List.map_cons, List.sum_cons] at *; omega
    · rw [if_neg h1] at h ⊢
      split at h
      · cases h; simp only [tot, List.map_cons, List.sum_cons]; omega
      · cases h
theorem mem_upd {nm : Bs} {g : Fl → Fl} {l : List Fl} {i : Nat} {y : Fl} (h : y ∈ l.modify i g) : ∃ x ∈ l, y = x ∨ y = g x := by
  induction l generalizing i with
  | nil => simp at h
  | cons x r ih =>
    cases i with
    | zero =>
      rcases List.mem_cons.1 (by simpa using h) with rfl | h
      · exact ⟨x, List.mem_cons_self .., .inr rfl⟩
      · exact ⟨y, List.mem_cons_of_mem _ h, .inl rfl⟩
    | succ i =>
      rcases List.mem_cons.1 (by simpa using h) with rfl | h
      · exact ⟨y, List.mem_cons_self .., .inl rfl⟩
      · obtain ⟨z, hz, e⟩ := ih h
        exact ⟨z, List.mem_cons_of_mem _ hz, e⟩
/-- a file comes -/
theorem ins_cons (nm : Bs) (y : Fl) (x : Fl) (r : List Fl) : insF (x :: r) (findF nm (x :: r) 0).1 y = if Op.bytesLess x.name nm then x :: insF r (findF nm r 0).1 y else y :: x :: r := by
  rw [find_cons]
  split
  · simp [insF]
  · simp [insF]
theorem look_ins {nm : Bs} {y : Fl} (hy : y.name = nm) : ∀ {l : List Fl}, Srt l → lookF nm l = none → (∀ nm', lookF nm' (insF l (findF nm l 0).1 y) = if nm' = nm then some y else lookF nm' l) ∧ Srt (insF l (findF nm l 0).1 y)
  | [], _, _ => by
    refine ⟨fun nm' => ?_, by simp [insF, findF, Srt]⟩
    show lookF nm' [y] = _
    rw [look_cons, hy]
    by_cases e : nm' = nm
    · subst e; rw [bl_irr, if_pos rfl, if_pos rfl]; rfl
    · rw [if_neg e, look_nil, if_neg (show ¬ nm = nm' from fun h => e h.symm)]; split <;> rfl
  | x :: r, h, hn => by
    have hc := h.cons
    rw [look_cons] at hn
    by_cases h1 : Op.bytesLess x.name nm = true
    · rw [if_pos h1] at hn
      obtain ⟨i1, i2⟩ := look_ins hy hc.2 hn
      refine ⟨fun nm' => ?_, ?_⟩
      · rw [ins_cons, if_pos h1, look_cons, i1 nm', look_cons]
        by_cases e : nm' = nm
        · subst e; simp [h1]
        · simp only [if_neg e]
      · rw [ins_cons, if_pos h1]
        refine List.pairwise_cons.2 ⟨fun z hz => ?_, i2⟩
        obtain ⟨w, hw, rfl⟩ := List.mem_map.1 hz
        rw [insF] at hw
        rcases List.mem_append.1 hw with hw | hw
        · exact hc.1 w (List.mem_of_mem_take hw)
        rcases List.mem_cons.1 hw with rfl | hw
        · rw [hy]; exact h1
        · exact hc.1 w (List.mem_of_mem_drop hw)
    · rw [if_neg h1] at hn
      have h2 : x.name ≠ nm := by
        intro e; rw [if_pos e] at hn; cases hn
      have h3 := bl_tri _ _ h2 (by simpa using h1)
      refine ⟨fun nm' => ?_, ?_⟩
      · rw [ins_cons, if_neg h1, look_cons, hy]
        by_cases e : nm' = nm
        · subst e; rw [if_neg (by rw [bl_irr]; simp), if_pos rfl, if_pos rfl]
        · rw [if_neg e]
          by_cases h4 : Op.bytesLess nm nm' = true
          · rw [if_pos h4]
          · rw [if_neg h4, if_neg (show ¬ nm = nm' from fun h => e h.symm), look_cons]
            have h5 := bl_tri _ _ (fun h => e h.symm) (by simpa using h4)
            have h6 := bl_trans _ _ _ h5 h3
            rw [if_neg (by intro h7; have := bl_trans _ _ _ h6 h7; rw [bl_irr] at this; cases this), if_neg (by intro h7; rw [h7, bl_irr] at h6; cases h6)]
      · rw [ins_cons, if_neg h1]
        refine List.pairwise_cons.2 ⟨fun z hz => ?_, h⟩
        obtain ⟨w, hw, rfl⟩ := List.mem_map.1 hz
        rw [hy]
        rcases List.mem_cons.1 hw with rfl | hw
        · exact h3
        · exact bl_trans _ _ _ h3 (hc.1 w hw)
theorem mem_ins {l : List Fl} {i : Nat} {x y : Fl} (h : y ∈ insF l i x) : y = x ∨ y ∈ l := by
  rcases List.mem_append.1 h with h | h
  · exact .inr (List.mem_of_mem_take h)
  rcases List.mem_cons.1 h with rfl | h
  · exact .inl rfl
  · exact .inr (List.mem_of_mem_drop h)
/-- a file goes -/
theorem del_cons (nm : Bs) (x : Fl) (r : List Fl) : (x :: r).eraseIdx (findF nm (x :: r) 0).1 = if Op.bytesLess x.name nm then x :: r.eraseIdx (findF nm r 0).1 else r := by
  rw [find_cons]
  split
  · simp
  · simp
theorem look_out {nm : Bs} : ∀ {l : List Fl}, (∀ y ∈ l, Op.bytesLess nm y.name = true) → lookF nm l = none
  | [], _ => rfl
  | x :: r, h => by
    have hx := h x (List.mem_cons_self ..)
    rw [look_cons, if_neg (by intro h2; have := bl_trans _ _ _ hx h2; rw [bl_irr] at this; cases this), if_neg (by intro e; rw [e, bl_irr] at hx; cases hx)]
theorem look_del {nm : Bs} : ∀ {l : List Fl}, Srt l → (lookF nm l).isSome → ∀ nm', lookF nm' (l.eraseIdx (findF nm l 0).1) = if nm' = nm then none else lookF nm' l
  | [], _, hf, _ => by simp [look_nil] at hf
  | x :: r, h, hf, nm' => by
    have hc := h.cons
    rw [look_cons] at hf
    rw [del_cons]
    by_cases h1 : Op.bytesLess x.name nm = true
    · rw [if_pos h1] at hf ⊢
      rw [look_cons, look_del hc.2 hf nm', look_cons]
      by_cases e : nm' = nm
      · subst e; simp [h1]
      · simp only [if_neg e]
    · rw [if_neg h1] at hf ⊢
      by_cases h2 : x.name = nm
      · by_cases e : nm' = nm
        · subst e; rw [if_pos rfl]; exact look_out fun y hy => h2 ▸ hc.1 y hy
        · rw [if_neg e, look_cons]
          by_cases h3 : Op.bytesLess x.name nm' = true
          · rw [if_pos h3]
          · rw [if_neg h3, if_neg (show ¬ x.name = nm' from fun h => e (h ▸ h2.symm ▸ rfl))]
            have h4 := bl_tri _ _ (fun h => e (h2 ▸ h.symm)) (by simpa using h3)
            exact look_out fun y hy => bl_trans _ _ _ h4 (hc.1 y hy)
      · rw [if_neg h2] at hf; simp at hf
theorem srt_del {l : List Fl} (h : Srt l) (i : Nat) : Srt (l.eraseIdx i) := List.Pairwise.sublist ((List.eraseIdx_sublist l i).map Fl.name) h
end Go.Fw
namespace Go.Fw
open Go.Proofs
/-! A working disk; one generation on it. Plain. -/
structure Okd (D : Dk) : Prop where
  off : D.off = false
  arm : D.armed = false
  srt : Srt D.fl
theorem powF_ok {D : Dk} (h : D.armed = false) : powF D = (D, 0) := by unfold powF; rw [if_neg (by simp [h])]
theorem apd_full {D : Dk} (h : Okd D) (nm p : Bs) (hr : D.quota < tot D.fl + p.length) : apdF nm p D = (D, 7) := by
  unfold apdF; rw [if_neg (by simp [h.off]), if_pos (by omega)]
theorem apd_up {D : Dk} (h : Okd D) (nm p : Bs) (hr : tot D.fl + p.length ≤ D.quota) : ∃ F, apdF nm p D = ({ D with fl := F }, 0) ∧ Srt F ∧
    (∀ nm', lookF nm' F = if nm' = nm then some ⟨nm, rdB (lookF nm D.fl) ++ p, ((lookF nm D.fl).map Fl.kept).getD 0⟩ else lookF nm' D.fl) ∧ tot F = tot D.fl + p.length ∧ ∀ y ∈ F, y.name = nm ∨ ∃ x ∈ D.fl, x.name = y.name := by
  unfold apdF
  rw [if_neg (by simp [h.off]), if_neg (by omega), powF_ok h.arm, if_neg (by simp)]
  have hfl := found_look nm D.fl
  cases hl : lookF nm D.fl with
  | none =>
    rw [hl] at hfl
    have hfl : (findF nm D.fl 0).2 = false := hfl
    obtain ⟨h1, h2⟩ := look_ins (nm := nm) (y := ⟨nm, p, 0⟩) rfl h.srt hl
    refine ⟨insF D.fl (findF nm D.fl 0).1 ⟨nm, p, 0⟩, by rw [hfl]; rfl, h2, fun nm' => by rw [h1]; rfl, tot_ins _ _ _, fun y hy => ?_⟩
    rcases mem_ins hy with rfl | hy
    · exact .inl rfl
    · exact .inr ⟨y, hy, rfl⟩
  | some x =>
    rw [hl] at hfl
    have hfl : (findF nm D.fl 0).2 = true := hfl
    have hn := (look_name hl).2
    refine ⟨D.fl.modify (findF nm D.fl 0).1 (fun f => { f with b := f.b ++ p }), by rw [hfl]; rfl, srt_upd (nm := nm) (g := fun f => { f with b := f.b ++ p }) (fun f => rfl) h.srt _, fun nm' => ?_, ?_, fun y hy => ?_⟩
    · rw [look_upd (g := fun f => { f with b := f.b ++ p }) (fun f => rfl) h.srt (by rw [hl]; rfl), hl]
      split
      · subst hn; rfl
      · rfl
    · have := tot_upd nm (fun f => { f with b := f.b ++ p }) D.fl x hl
      simp only [List.length_append] at this
      have h2 := lookF_tot hl
      omega
    · obtain ⟨z, hz, e⟩ := mem_upd (nm := nm) hy
      rcases e with rfl | rfl
      · exact .inr ⟨y, hz, rfl⟩
      · exact .inr ⟨z, hz, rfl⟩
theorem known_ok {D : Dk} (h : D.off = false) {nm : Bs} {f : Fl} (hl : lookF nm D.fl = some f) : knownF nm D = ((findF nm D.fl 0).1, 0) := by
  unfold knownF
  rw [if_neg (by simp [h]), if_pos (by rw [found_look, hl]; rfl)]
theorem names_mem {F l : List Fl} (h : F.map Fl.name = l.map Fl.name) {y : Fl} (hy : y ∈ F) : ∃ x ∈ l, x.name = y.name := by
  have : y.name ∈ l.map Fl.name := h ▸ List.mem_map_of_mem hy
  obtain ⟨x, hx, e⟩ := List.mem_map.1 this
  exact ⟨x, hx, e⟩
theorem sync_up {D : Dk} (h : Okd D) {nm : Bs} {f : Fl} (hl : lookF nm D.fl = some f) : ∃ F, syncF nm D = ({ D with fl := F }, 0) ∧ Srt F ∧ (∀ nm', lookF nm' F = if nm' = nm then some (keptF f) else lookF nm' D.fl) ∧ tot F = tot D.fl ∧ F.map Fl.name = D.fl.map Fl.name := by
  unfold syncF
  rw [known_ok h.off hl, if_neg (by simp), powF_ok h.arm, if_neg (by simp)]
  refine ⟨D.fl.modify (findF nm D.fl 0).1 keptF, rfl, srt_upd (nm := nm) (g := keptF) (fun f => rfl) h.srt _, fun nm' => ?_, ?_, names_modify _ _ _ fun f => rfl⟩
  · rw [look_upd (g := keptF) (fun f => rfl) h.srt (by rw [hl]; rfl), hl]; rfl
  · have := tot_upd nm keptF D.fl f hl
    simp only [keptF] at this; omega
theorem rm_up {D : Dk} (h : Okd D) {nm : Bs} {f : Fl} (hl : lookF nm D.fl = some f) : ∃ F, rmF nm D = ({ D with fl := F }, 0) ∧ Srt F ∧ (∀ nm', lookF nm' F = if nm' = nm then none else lookF nm' D.fl) ∧ tot F ≤ tot D.fl ∧ ∀ y ∈ F, y ∈ D.fl := by
  unfold rmF
  rw [known_ok h.off hl, if_neg (by simp), powF_ok h.arm, if_neg (by simp)]
  exact ⟨D.fl.eraseIdx (findF nm D.fl 0).1, rfl, srt_del h.srt _, look_del h.srt (by rw [hl]; rfl), tot_erase _ _, fun y hy => (List.eraseIdx_sublist ..).subset hy⟩
theorem wr_up {D : Dk} (h : Okd D) (nm p : Bs) (W : Wl) (hr : tot D.fl + p.length ≤ D.quota) : ∃ F, wrF nm p W D = ({ W with down := false }, { D with fl := F }, 0) ∧ Srt F ∧
    (∀ nm', lookF nm' F = if nm' = nm then some ⟨nm, rdB (lookF nm D.fl) ++ p, (rdB (lookF nm D.fl) ++ p).length⟩ else lookF nm' D.fl) ∧ tot F = tot D.fl + p.length ∧ ∀ y ∈ F, y.name = nm ∨ ∃ x ∈ D.fl, x.name = y.name := by
  obtain ⟨F, e, hs, hl, ht, hm⟩ := apd_up h nm p hr
  have hnm := hl nm
  rw [if_pos rfl] at hnm
  obtain ⟨F2, e2, hs2, hl2, ht2, hn2⟩ := sync_up (D := { D with fl := F }) ⟨h.off, h.arm, hs⟩ hnm
  unfold wrF
  rw [e, if_neg (by simp), if_pos rfl]
  refine ⟨F2, by simp only [e2]; rfl, hs2, fun nm' => ?_, ht2.trans ht, fun y hy => ?_⟩
  · rw [hl2]
    split
    · rfl
    · rename_i e3; show lookF nm' F = _; rw [hl, if_neg e3]
  · obtain ⟨x, hx, ex⟩ := names_mem hn2 hy
    rcases hm x hx with h1 | ⟨z, hz, h2⟩
    · exact .inl (ex ▸ h1)
    · exact .inr ⟨z, hz, h2.trans ex⟩
/-! one generation -/
structure Gen (fl : List Fl) (g : Nat) (segs : List Bs) : Prop where
  srt : Srt fl
  seg : ∀ k (h : k < segs.length), lookF (nmB g (k + 1)) fl = some ⟨nmB g (k + 1), segs[k], segs[k].length⟩
  only : ∀ x ∈ fl, ∃ k, k < segs.length ∧ x.name = nmB g (k + 1)
theorem Gen.noF {fl : List Fl} {g : Nat} {segs : List Bs} (G : Gen fl g segs) {g' k' : Nat} (hg : g < 100) (hK : segs.length < 99) (hg' : g' < 100) (hk' : k' < 100) (h : g' ≠ g ∨ k' = 0 ∨ segs.length < k') : lookF (nmB g' k') fl = none := by
  cases hl : lookF (nmB g' k') fl with
  | none => rfl
  | some x =>
    obtain ⟨hx, hn⟩ := look_name hl
    obtain ⟨k, hk, e⟩ := G.only x hx
    rw [hn] at e
    obtain ⟨e1, e2⟩ := nmB_inj hg' hk' hg (by omega) e
    omega
def lastSz (s : Nat) : List (List Bs) → Nat
  | [] => s
  | l :: r => lastSz (frs l).length r
theorem lastSz_get : ∀ (ls : List (List Bs)) (s i : Nat) (h : i < ls.length), i + 1 = ls.length → lastSz s ls = (frs ls[i]).length
  | [], _, i, h, _ => by simp at h
  | [l], s, i, h, e => by
    have : i = 0 := by simpa using e
    subst this; rfl
  | l :: l2 :: r, s, i, h, e => by
    cases i with
    | zero => simp at e
    | succ i =>
      have := lastSz_get (l2 :: r) (frs l).length i (by simpa using h) (by simpa using e)
      simpa [lastSz] using this
theorem segN_ls (fl : List Fl) (g : Nat) : ∀ (ls : List (List Bs)) (k f : Nat) (all : List Bs) (lk size : Nat), (∀ j (h : j < ls.length), ∃ kp, lookF (nmB g (k + j)) fl = some ⟨nmB g (k + j), frs ls[j], kp⟩) → lookF (nmB g (k + ls.length)) fl = none →
    (∀ l ∈ ls, ∀ p ∈ l, okR p) → (k = 1 → ∀ l r, ls = l :: r → l ≠ []) → lk + 1 = k → ls.length ≤ f → segN fl g f k all lk size = some (all ++ ls.flatten, lk + ls.length, lastSz size ls)
  | [], k, f, all, lk, size, _, he, _, _, _, _ => by
    cases f with
    | zero => simp [segN, lastSz]
    | succ f =>
      rw [segN, show lookF (nmB g k) fl = none from he]
      simp [lastSz]
  | l :: r, k, f, all, lk, size, hl, he, hok, h1, hlk, hf => by
    cases f with
    | zero => simp at hf
    | succ f =>
      obtain ⟨kp, h0⟩ := hl 0 (by simp)
      rw [segN, show lookF (nmB g k) fl = some ⟨nmB g k, frs l, kp⟩ from h0]
      have hs := scan_all l (hok l (List.mem_cons_self ..))
      simp only [hs]
      rw [if_neg (by rintro ⟨e, e2⟩; exact h1 e l r rfl e2), if_neg (by omega)]
      rw [segN_ls fl g r (k + 1) f (all ++ l) k (frs l).length (fun j h => by
          obtain ⟨kp, hj⟩ := hl (j + 1) (by simpa using h)
          exact ⟨kp, by rw [show k + 1 + j = k + (j + 1) from by omega]; simpa using hj⟩) (by rw [show k + 1 + r.length = k + (l :: r).length from by simp; omega]; exact he)
        (fun l' h => hok l' (List.mem_cons_of_mem _ h)) (by omega) rfl (by simpa using hf)]
      simp only [List.flatten_cons, List.append_assoc, List.length_cons, lastSz]
      congr 3; omega
/-- what the segments hold -/
def SegR (segs : List Bs) (n : Nat) (recs : List Bs) : Prop := ∃ ls, segs = ls.map frs ∧ ls.flatten = numB (n : Nat) :: recs ∧ (∀ l r, ls = l :: r → l ≠ []) ∧ (∀ p ∈ recs, okR p) ∧ n ≤ recs.length ∧ n < 1000000000
theorem numF_pos : ∀ (f u : Nat), 0 < f → 0 < (numF f u).length
  | 0, _, h => by omega
  | f + 1, u, _ => by unfold numF; split <;> simp
theorem numB_ok (n : Int) : okR (numB n) := ⟨numF_pos 10 _ (by omega), Nat.le_trans (numB_len n) (by decide)⟩
theorem num_rd (n : Nat) (hn : n < 1000000000) : ((⟨0, 0⟩ : RS).num (numB (n : Nat))) = ((n : Int), ⟨(numB (n : Nat)).length, 0⟩) := by
  have := numR_numF 10 (zig (n : Nat)) 0 0 [] (by simpa using zig_lt (n : Nat) (by omega)) (by omega) (by omega) (.inl rfl)
  rw [List.append_nil] at this
  unfold RS.num
  rw [if_neg (by simp)]
  unfold numB
  rw [show ((⟨0, 0⟩ : RS).pos) = 0 from rfl, List.drop_zero, this]
  simp [numE, zag_zig]
theorem hdr_ok (n : Nat) (recs : List Bs) (h : n ≤ recs.length) (hn : n < 1000000000) : hdrOk (numB (n : Nat) :: recs) = true := by
  show decide ((((⟨0, 0⟩ : RS).num (numB (n : Nat))).2.fin (numB (n : Nat))).wr = 0 ∧ 0 ≤ ((⟨0, 0⟩ : RS).num (numB (n : Nat))).1 ∧ ((⟨0, 0⟩ : RS).num (numB (n : Nat))).1 ≤ recs.length) = true
  have e := num_rd n hn
  rw [e, decide_eq_true_eq]
  refine ⟨?_, ?_, ?_⟩
  · simp [RS.fin]
  · simp only; omega
  · simp only; omega
theorem SegR.ok {segs : List Bs} {n : Nat} {recs : List Bs} {ls : List (List Bs)} (e : ls.flatten = numB (n : Nat) :: recs) (h : ∀ p ∈ recs, okR p) : ∀ l ∈ ls, ∀ p ∈ l, okR p := fun l hl p hp => by
  have : p ∈ ls.flatten := List.mem_flatten.2 ⟨l, hl, hp⟩
  rw [e] at this
  rcases List.mem_cons.1 this with rfl | h2
  · exact numB_ok _
  · exact h p h2
theorem readG_gen {fl : List Fl} {g n : Nat} {segs recs : List Bs} (G : Gen fl g segs) (R : SegR segs n recs) (hg0 : 0 < g) (hg : g < 100) (hK : segs.length < 99) :
    ∃ sz, readG fl g = (recs, (g, segs.length), sz, true) ∧ 0 < segs.length ∧ sz = (rdB (lookF (nmB g segs.length) fl)).length := by
  obtain ⟨ls, rfl, hfl, hne, hok, hn, hnb⟩ := R
  have hlen : (ls.map frs).length = ls.length := by simp
  have hlpos : 0 < ls.length := by
    cases ls with
    | nil => simp at hfl
    | cons _ _ => simp
  have := segN_ls fl g ls 1 99 [] 0 0 (fun j h => ⟨_, by have := G.seg j (by simpa using h); rw [Nat.add_comm 1 j, this, List.getElem_map]⟩)
    (G.noF hg hK hg (by omega) (by simp)) (SegR.ok (segs := ls.map frs) hfl hok) (fun _ => hne) rfl (by omega)
  have hlast := G.seg (ls.length - 1) (by simp; omega)
  rw [show ls.length - 1 + 1 = ls.length from by omega] at hlast
  refine ⟨lastSz 0 ls, ?_, by rw [hlen]; exact hlpos, ?_⟩
  · unfold readG
    rw [this]
    simp only [List.nil_append, Nat.zero_add, hlen]
    rw [hfl, if_pos (hdr_ok n recs hn hnb)]
    unfold plC
    rw [if_neg (by omega)]; rfl
  · rw [hlen, hlast, lastSz_get ls 0 (ls.length - 1) (by omega) (by omega)]
    simp [rdB]
theorem grN_stay (fl : List Fl) (g : Nat) : ∀ (l : List Bs), (∀ nm ∈ l, ∃ k, plF nm = some (g, k)) → grN fl l g = g
  | [], _ => rfl
  | nm :: r, h => by
    obtain ⟨k, hk⟩ := h nm (List.mem_cons_self ..)
    unfold grN
    rw [hk]
    simp only [Nat.le_refl, if_true]
    exact grN_stay fl g r fun x hx => h x (List.mem_cons_of_mem _ hx)
theorem grF_gen {fl : List Fl} {g : Nat} (hg0 : 0 < g) (h : ∀ nm ∈ fl.map Fl.name, ∃ k, plF nm = some (g, k)) (hne : fl ≠ []) (hw : (readG fl g).2.2.2 = true) : grF fl = g := by
  unfold grF
  cases hm : fl.map Fl.name with
  | nil => exact absurd (List.map_eq_nil_iff.1 hm) hne
  | cons nm r =>
    rw [hm] at h
    obtain ⟨k, hk⟩ := h nm (List.mem_cons_self ..)
    unfold grN
    rw [hk]
    simp only
    rw [if_neg (by omega), if_pos hw]
    exact grN_stay fl g r fun x hx => h x (List.mem_cons_of_mem _ hx)
theorem clN_stay (g K : Nat) (D : Dk) : ∀ (l : List Bs), (∀ nm ∈ l, ∃ k, plF nm = some (g, k) ∧ k ≤ K) → clN (g, K) l D = (D, 0)
  | [], _ => rfl
  | nm :: r, h => by
    obtain ⟨k, hk, hkK⟩ := h nm (List.mem_cons_self ..)
    unfold clN
    rw [hk]
    simp only
    simp only [hkK, and_self, if_true]
    exact clN_stay g K D r fun x hx => h x (List.mem_cons_of_mem _ hx)
theorem Gen.names {fl : List Fl} {g : Nat} {segs : List Bs} (G : Gen fl g segs) (hg0 : 0 < g) (hg : g < 100) (hK : segs.length < 99) : ∀ nm ∈ fl.map Fl.name, ∃ k, plF nm = some (g, k) ∧ k ≤ segs.length := fun nm hnm => by
  obtain ⟨x, hx, rfl⟩ := List.mem_map.1 hnm
  obtain ⟨k, hk, e⟩ := G.only x hx
  exact ⟨k + 1, by rw [e]; exact plF_nm hg0 hg (by omega) (by omega), by omega⟩
theorem opF_gen {D : Dk} (h : Okd D) {g n : Nat} {segs recs : List Bs} (G : Gen D.fl g segs) (R : SegR segs n recs) (hg0 : 0 < g) (hg : g < 100) (hK : segs.length < 99) :
    ∃ F, opF D = ((some ⟨g, segs.length, false⟩, recs), { D with fl := F }, 0) ∧ Gen F g segs ∧ tot F = tot D.fl := by
  obtain ⟨sz, hr, hpos, hsz⟩ := readG_gen G R hg0 hg hK
  have hn := G.names hg0 hg hK
  have hlast := G.seg (segs.length - 1) (by omega)
  rw [show segs.length - 1 + 1 = segs.length from by omega] at hlast
  have hne : D.fl ≠ [] := by intro e; rw [e] at hlast; cases hlast
  have hgr := grF_gen hg0 (fun nm hnm => by obtain ⟨k, hk, _⟩ := hn nm hnm; exact ⟨k, hk⟩) hne (by rw [hr])
  obtain ⟨F, e, hs, hl, ht, hnm⟩ := sync_up h hlast
  have hcl : clF (g, segs.length) D = (D, 0) := clN_stay g segs.length D _ hn
  refine ⟨F, ?_, ⟨hs, fun k hk => ?_, fun x hx => ?_⟩, ht⟩
  · unfold opF
    rw [hgr, if_neg (by omega), hr]
    have hnc : ¬ sz < (rdB (lookF (nmB g segs.length) D.fl)).length := by omega
    simp only [if_neg hnc, hcl, e, ne_eq, not_true_eq_false, if_false]
  · rw [hl]
    split
    · rename_i e2
      obtain ⟨_, e3⟩ := nmB_inj hg (by omega) hg (by omega) e2
      have e4 : k = segs.length - 1 := by omega
      subst e4
      rw [e2]; rfl
    · exact G.seg k hk
  · obtain ⟨y, hy, ey⟩ := names_mem hnm hx
    rw [← ey]; exact G.only y hy
theorem opF_nil {D : Dk} (h : D.fl = []) : opF D = ((some ⟨0, 0, false⟩, []), D, 0) := by
  have hg : grF D.fl = 0 := by rw [h]; rfl
  have hc : clF (0, 0) D = (D, 0) := by unfold clF; rw [h]; rfl
  unfold opF
  rw [hg, if_pos rfl, hc]
  simp
end Go.Fw
namespace Go.Fw
open Go.Proofs
/-! Add and Anew over one generation. Plain. -/
theorem frs_app (a b : List Bs) : frs (a ++ b) = frs a ++ frs b := by simp [frs]
theorem frs_cons (p : Bs) (l : List Bs) : frs (p :: l) = frB p ++ frs l := by simp [frs]
theorem add_gen {D : Dk} (h : Okd D) {g n : Nat} {segs recs l : List Bs} (G : Gen D.fl g segs) (R : SegR segs n recs) (hg0 : 0 < g) (hg : g < 100) (hK : segs.length < 98) (hpos : 0 < segs.length) (hl : l ≠ []) (hok : ∀ p ∈ l, okR p) (hr : tot D.fl + (frs l).length ≤ D.quota) :
    ∃ F segs', addF l ⟨g, segs.length, false⟩ D = (⟨g, segs'.length, false⟩, { D with fl := F }, 0) ∧ Gen F g segs' ∧ SegR segs' n (recs ++ l) ∧ tot F = tot D.fl + (frs l).length ∧
      segs' = if 4096 < (segs.getLast (List.ne_nil_of_length_pos hpos)).length then segs ++ [frs l] else segs.dropLast ++ [segs.getLast (List.ne_nil_of_length_pos hpos) ++ frs l] := by
  have hne := List.ne_nil_of_length_pos hpos
  obtain ⟨ls, hls, hfl, hhd, hoks, hn, hnb⟩ := R
  have hlpos : ls ≠ [] := by intro e; rw [e] at hls; exact hne hls
  have hlast := G.seg (segs.length - 1) (by omega)
  rw [show segs.length - 1 + 1 = segs.length from by omega] at hlast
  have hgl : segs.getLast hne = segs[segs.length - 1] := List.getLast_eq_getElem hne
  rw [← hgl] at hlast
  have hadk : adK ⟨g, segs.length, false⟩ D = if 4096 < (segs.getLast hne).length then segs.length + 1 else segs.length := by
    unfold adK; simp only [hlast]; rfl
  have hrecs : ∀ p ∈ recs ++ l, okR p := fun p hp => (List.mem_append.1 hp).elim (hoks p) (hok p)
  have hnn : n ≤ (recs ++ l).length := by rw [List.length_append]; omega
  unfold addF
  rw [if_neg (by simp), if_neg (by simp only; omega), if_neg hl, hadk]
  by_cases hlong : 4096 < (segs.getLast hne).length
  · simp only [if_pos hlong]
    obtain ⟨F, e, hs, hlk, ht, hm⟩ := wr_up h (nmB g (segs.length + 1)) (frs l) ⟨g, segs.length, false⟩ hr
    have hno := G.noF hg (by omega) hg (k' := segs.length + 1) (by omega) (.inr (.inr (by omega)))
    rw [hno] at hlk
    refine ⟨F, segs ++ [frs l], ?_, ⟨hs, fun k hk => ?_, fun x hx => ?_⟩, ⟨ls ++ [l], by rw [hls]; simp, by rw [List.flatten_append, hfl]; simp, fun a b hab => ?_, hrecs, hnn, hnb⟩, ht, rfl⟩
    · rw [e]; simp
    · rw [hlk]
      rw [List.length_append] at hk
      by_cases hk2 : k = segs.length
      · subst hk2
        rw [if_pos rfl]
        simp [rdB]
      · have hk3 : k < segs.length := by simp at hk; omega
        rw [if_neg (fun hh => hk2 (by have := (nmB_inj hg (by omega) hg (by omega) hh).2; omega)), List.getElem_append_left hk3]
        exact G.seg k hk3
    · rcases hm x hx with h1 | ⟨y, hy, h2⟩
      · exact ⟨segs.length, by simp, h1⟩
      · obtain ⟨k, hk, e3⟩ := G.only y hy
        exact ⟨k, by simp; omega, h2 ▸ e3⟩
    · cases ls with
      | nil => exact absurd rfl hlpos
      | cons a' b' =>
        simp only [List.cons_append, List.cons.injEq] at hab
        exact hab.1 ▸ hhd a' b' rfl
  · simp only [if_neg hlong]
    obtain ⟨F, e, hs, hlk, ht, hm⟩ := wr_up h (nmB g segs.length) (frs l) ⟨g, segs.length, false⟩ hr
    rw [hlast] at hlk
    have hsl : (segs.dropLast ++ [segs.getLast hne ++ frs l]).length = segs.length := by simp; omega
    have hdl : segs.dropLast.length = segs.length - 1 := by simp
    refine ⟨F, segs.dropLast ++ [segs.getLast hne ++ frs l], ?_, ⟨hs, fun k hk => ?_, fun x hx => ?_⟩, ⟨ls.dropLast ++ [ls.getLast hlpos ++ l], ?_, ?_, fun a b hab => ?_, hrecs, hnn, hnb⟩, ht, rfl⟩
    · rw [e, hsl]; simp
    · rw [hlk]
      rw [hsl] at hk
      by_cases hk2 : k + 1 = segs.length
      · have hk3 : ¬ k < segs.dropLast.length := by omega
        have hk4 : segs.dropLast.length ≤ k := by omega
        rw [if_pos (by rw [hk2])]
        rw [List.getElem_append_right hk4]
        simp [rdB, hk2]
      · have hk3 : k < segs.dropLast.length := by omega
        rw [if_neg (fun hh => hk2 (by have := (nmB_inj hg (by omega) hg (by omega) hh).2; omega)), List.getElem_append_left hk3, List.getElem_dropLast]
        exact G.seg k hk
    · rw [hsl]
      rcases hm x hx with h1 | ⟨y, hy, h2⟩
      · exact ⟨segs.length - 1, by omega, by rw [h1, show segs.length - 1 + 1 = segs.length from by omega]⟩
      · obtain ⟨k, hk, e3⟩ := G.only y hy
        exact ⟨k, hk, h2 ▸ e3⟩
    · subst hls
      rw [List.map_append, List.map_dropLast, List.getLast_map]
      simp [frs_app]
    · rw [List.flatten_append, List.flatten_singleton, ← List.append_assoc]
      have : ls.dropLast.flatten ++ ls.getLast hlpos = ls.flatten := by
        have := congrArg List.flatten (List.dropLast_concat_getLast hlpos)
        rw [List.flatten_append, List.flatten_singleton] at this
        exact this
      rw [this, hfl]; rfl
    · cases ls with
      | nil => exact absurd rfl hlpos
      | cons a' b' =>
        cases b' with
        | nil =>
          simp at hab
          intro e2
          have := hhd a' [] rfl
          rw [← hab.1] at e2
          simp at e2
          exact this e2.1
        | cons c' d' =>
          simp only [List.dropLast_cons_cons, List.cons_append, List.cons.injEq] at hab
          exact hab.1 ▸ hhd a' _ rfl
/-- the old generation goes -/
theorem anR_gen {g K : Nat} : ∀ (f k : Nat) (D : Dk), Okd D → f + k = K + 1 → (∀ j, k ≤ j → j ≤ K → (lookF (nmB g j) D.fl).isSome) → (∀ i j, i ≤ K → j ≤ K → nmB g i = nmB g j → i = j) →
    ∃ F, anR g f k D = ({ D with fl := F }, 0) ∧ Srt F ∧ (∀ nm', ((∃ j, k ≤ j ∧ j ≤ K ∧ nm' = nmB g j) → lookF nm' F = none) ∧ ((¬ ∃ j, k ≤ j ∧ j ≤ K ∧ nm' = nmB g j) → lookF nm' F = lookF nm' D.fl)) ∧ tot F ≤ tot D.fl ∧ ∀ y ∈ F, y ∈ D.fl
  | 0, k, D, h, e, _, _ => ⟨D.fl, rfl, h.srt, fun nm' => ⟨by rintro ⟨j, h1, h2, _⟩; omega, fun _ => rfl⟩, Nat.le_refl _, fun y hy => hy⟩
  | f + 1, k, D, h, e, hs, hi => by
    obtain ⟨x, hx⟩ := Option.isSome_iff_exists.1 (hs k (Nat.le_refl _) (by omega))
    obtain ⟨F, e1, s1, l1, t1, m1⟩ := rm_up h hx
    obtain ⟨F2, e2, s2, l2, t2, m2⟩ := anR_gen (g := g) (K := K) f (k + 1) { D with fl := F } ⟨h.off, h.arm, s1⟩ (by omega) (fun j h1 h2 => by
      simp only [l1]
      rw [if_neg (fun hh => by have := hi j k h2 (by omega) hh; omega)]
      exact hs j (by omega) h2) hi
    refine ⟨F2, ?_, s2, fun nm' => ?_, Nat.le_trans t2 t1, fun y hy => m1 y (m2 y hy)⟩
    · unfold anR
      rw [e1, if_neg (by simp), e2]
    · constructor
      · rintro ⟨j, h1, h2, h3⟩
        by_cases hh : ∃ j, k + 1 ≤ j ∧ j ≤ K ∧ nm' = nmB g j
        · exact (l2 nm').1 hh
        · rw [(l2 nm').2 hh]
          simp only [l1]
          rw [if_pos]
          rcases Nat.eq_or_lt_of_le h1 with rfl | h1
          · exact h3
          · exact absurd ⟨j, h1, h2, h3⟩ hh
      · intro hh
        rw [(l2 nm').2 fun ⟨j, h1, h2, h3⟩ => hh ⟨j, by omega, h2, h3⟩]
        simp only [l1]
        rw [if_neg fun h4 => hh ⟨k, Nat.le_refl _, by omega, h4⟩]
theorem anew_gen {D : Dk} (h : Okd D) {g : Nat} {segs l : List Bs} (G : Gen D.fl g segs) (hg : g < 99) (hK : segs.length < 99) (hok : ∀ p ∈ l, okR p) (hr : tot D.fl + (hdR l).length ≤ D.quota) (hln : l.length < 1000000000) :
    ∃ F, anewF l ⟨g, segs.length, false⟩ D = (⟨g + 1, 1, false⟩, { D with fl := F }, 0) ∧ Gen F (g + 1) [hdR l] ∧ SegR [hdR l] l.length l ∧ tot F ≤ tot D.fl + (hdR l).length := by
  obtain ⟨F, e, hs, hlk, ht, hm⟩ := wr_up h (nmB (g + 1) 1) (hdR l) ⟨g, segs.length, false⟩ hr
  have hno := G.noF (by omega) hK (g' := g + 1) (k' := 1) (by omega) (by omega) (.inl (by omega))
  rw [hno] at hlk
  have hinj : ∀ i j, i ≤ segs.length → j ≤ segs.length → nmB g i = nmB g j → i = j := fun i j h1 h2 hh => (nmB_inj (by omega) (by omega) (by omega) (by omega) hh).2
  have hne : ∀ j, j ≤ segs.length → nmB g j ≠ nmB (g + 1) 1 := fun j hj hh => by have := (nmB_inj (by omega) (by omega) (by omega) (by omega) hh).1; omega
  obtain ⟨F2, e2, s2, l2, t2, m2⟩ := anR_gen (g := g) (K := segs.length) segs.length 1 { D with fl := F } ⟨h.off, h.arm, hs⟩ (by omega) (fun j h1 h2 => by
    simp only [hlk]
    rw [if_neg (hne j h2)]
    have := G.seg (j - 1) (by omega)
    rw [show j - 1 + 1 = j from by omega] at this
    rw [this]; rfl) hinj
  have hR : SegR [hdR l] l.length l := by
    refine ⟨[numB (l.length : Nat) :: l], ?_, by simp, fun a b hab => by simp at hab; rw [← hab.1]; simp, hok, Nat.le_refl _, hln⟩
    simp only [List.map_cons, List.map_nil, frs_cons, hdR, frO]
    rw [if_pos (numB_ok _)]
  refine ⟨F2, ?_, ⟨s2, fun k hk => ?_, fun x hx => ?_⟩, hR, by simp only at t2; omega⟩
  · unfold anewF
    rw [if_neg (by simp)]
    simp only [e, e2, ne_eq, not_true_eq_false, if_false]
  · have : k = 0 := by simpa using hk
    subst this
    rw [(l2 _).2 (by rintro ⟨j, h1, h2, h3⟩; exact hne j h2 h3.symm)]
    simp only [hlk, Nat.zero_add, if_true]
    simp [rdB]
  · refine ⟨0, by simp, ?_⟩
    have hx2 := mem_look s2 hx
    have hnj : ¬ ∃ j, 1 ≤ j ∧ j ≤ segs.length ∧ x.name = nmB g j := fun hh => by rw [(l2 _).1 hh] at hx2; cases hx2
    rcases hm x (m2 x hx) with h1 | ⟨y, hy, h2⟩
    · exact h1
    · obtain ⟨k, hk, e3⟩ := G.only y hy
      exact absurd ⟨k + 1, by omega, by omega, h2 ▸ e3⟩ hnj
end Go.Fw
namespace Go.Fw
open Go.Proofs
variable {m m0 M : Mem} {S : List Nat} {L : List As}
abbrev R64i (n : Int) : Prop := -9223372036854775808 ≤ n ∧ n ≤ 9223372036854775807
theorem within_s (n lo hi : Int) (h : lo ≤ hi) (hn : R64i n) (h1 : -1000000000000 ≤ lo) (h2 : hi ≤ 1000000000000) : MC Tryz.prog n_book_Within [.int .i64 n, .int .i64 lo, .int .i64 hi] m fun v M => (∃ r, v = .int .i64 r ∧ lo ≤ r ∧ r ≤ hi) ∧ Fr m M [] := by
  refine book_Within_go (by simp [Tryz.f33]) ?_
  have hd : 0 < hi - lo + 1 := by omega
  have e1 := Int.tmod_lt_of_pos n hd
  have e2 : -(hi - lo + 1) < n.tmod (hi - lo + 1) := by
    have := Int.lt_tmod_of_pos n hd
    omega
  have H := Hq.refl m []
  simp (disch := omega) only [go_sem, undef, rd_rem]
  generalize n.tmod (hi - lo + 1) = q at *
  refine condB_dec (fun h3 => ?_) (fun h3 => ?_)
  · simp (disch := omega) only [go_sem, undef]
    exact ⟨⟨_, rfl, by omega, by omega⟩, H.fr⟩
  · simp (disch := omega) only [go_sem, undef]
    exact ⟨⟨_, rfl, by omega, by omega⟩, H.fr⟩
theorem take_snoc_eq {α : Type} {l r : List α} {j : Nat} {x y : α} (hx : l[j]? = some x) (hy : r[j]? = some y) (h : l.take j = r.take j) : l.take (j + 1) = r.take (j + 1) ↔ x = y := by
  rw [List.take_add_one, List.take_add_one, hx, hy, h]
  simp
theorem ne_of_take {α : Type} {l r : List α} {j : Nat} {x y : α} (hx : l[j]? = some x) (hy : r[j]? = some y) (h : x ≠ y) : l ≠ r := by
  rintro rfl; rw [hx] at hy; cases hy; exact h rfl
set_option maxHeartbeats 4000000 in
theorem same_s {v u : Value} {l r : Bs} (hv : RdB m v l) (hu : RdB m u r) (hl : l.length ≤ 1000000000) (hr : r.length ≤ 1000000000) : MC Tryz.prog n_book_Same_byte [v, u] m fun w M => w = .bool (decide (l = r)) ∧ Fr m M [] := by
  obtain ⟨a, c, rfl⟩ := hv.form
  obtain ⟨a2, c2, rfl⟩ := hu.form
  refine book_Same_byte_go (by simp [Tryz.f33]) ?_
  by_cases hll : l.length = r.length
  · simp (disch := omega) only [go_sem, undef, dec_f (show ¬ ((l.length : Nat) : Int) ≠ (r.length : Nat) by omega)]
    refine loopQ_intro (fun k E m' => ∃ j, j ≤ l.length ∧ k = l.length - j ∧ E = [(0, .slice a l.length c), (1, .slice a2 r.length c2), (5, .int .i64 (j : Nat))] ∧ l.take j = r.take j ∧ m' = m) l.length rfl ⟨0, by omega, by omega, rfl, rfl, rfl⟩ ?_
    rintro k E M1 ⟨j, hj, rfl, rfl, ht, rfl⟩
    simp (disch := omega) only [go_sem, undef]
    refine condB_dec (fun hlt => ?_) (fun hlt => ?_)
    · have hlt : j < l.length := by omega
      refine RdS.elK hv hlt (by decide) fun bx o x hx hix hE => ?_
      refine RdS.elK hu (show j < r.length by omega) (by decide) fun bx2 o2 y hy hiy hE2 => ?_
      have hts := take_snoc_eq hx hy ht
      by_cases hxy : x = y
      · subst hxy
        simp (disch := omega) only [go_sem, undef, hix, hiy, hE.ld0, hE2.ld0, dec_f (show ¬ ((x.toNat : Nat) : Int) ≠ (x.toNat : Nat) by simp)]
        exact handN_intro (l.length - (j + 1)) (by omega) ⟨j + 1, by omega, rfl, rfl, hts.2 rfl, rfl⟩
      · have hne : x.toNat ≠ y.toNat := fun h => hxy (UInt8.toNat_inj.1 h)
        simp (disch := omega) only [go_sem, undef, hix, hiy, hE.ld0, hE2.ld0, dec_t (show ((x.toNat : Nat) : Int) ≠ (y.toNat : Nat) by omega)]
        exact ⟨by rw [decide_eq_false (ne_of_take hx hy hxy)], Fr.refl _ _⟩
    · have e : j = l.length := by omega
      subst e
      rw [List.take_length, hll, List.take_length] at ht
      simp (disch := omega) only [go_sem, undef]
      exact ⟨by rw [decide_eq_true ht], Fr.refl _ _⟩
  · simp (disch := omega) only [go_sem, undef, dec_t (show ((l.length : Nat) : Int) ≠ (r.length : Nat) by omega)]
    exact ⟨by rw [decide_eq_false (fun e => hll (by rw [e]))], Fr.refl _ _⟩
set_option maxHeartbeats 4000000 in
theorem lists_s {v u : Value} {vs us : List Value} {l r : List Bs} (hv : RdS 1 v1 m v vs) (hF : F2 (fun v l => RdB m v l) vs l) (hu : RdS 1 v1 m u us) (hG : F2 (fun v l => RdB m v l) us r)
    (hl : ∀ p ∈ l, p.length ≤ 1000000000) (hr : ∀ p ∈ r, p.length ≤ 1000000000) (hvl : vs.length ≤ 1000000000) (hul : us.length ≤ 1000000000) :
    MC Tryz.prog n_law10_lists [v, u] m fun w M => w = .bool (decide (l = r)) ∧ Fr m M [] := by
  have h1 := F2_len hF
  have h2 := F2_len hG
  obtain ⟨a, c, rfl⟩ := hv.form
  obtain ⟨a2, c2, rfl⟩ := hu.form
  refine law10_lists_go (by simp [Tryz.f33]) ?_
  by_cases hll : l.length = r.length
  · simp (disch := omega) only [go_sem, undef, dec_f (show ¬ ((vs.length : Nat) : Int) ≠ (us.length : Nat) by omega)]
    refine loopQ_intro (fun k E m' => ∃ j, j ≤ l.length ∧ k = l.length - j ∧ E = [(0, .slice a vs.length c), (1, .slice a2 us.length c2), (5, .int .i64 (j : Nat))] ∧ l.take j = r.take j ∧ Fr m m' []) l.length rfl ⟨0, by omega, by omega, rfl, rfl, Fr.refl _ _⟩ ?_
    rintro k E M1 ⟨j, hj, rfl, rfl, ht, f⟩
    have H : Hq m M1 [] [] := (Hq.refl m []).keep f
    simp (disch := omega) only [go_sem, undef]
    refine condB_dec (fun hlt => ?_) (fun hlt => ?_)
    · have hlt : j < l.length := by omega
      refine F2_at hF (show j < vs.length by omega) fun x0 x hx0 hx hX => ?_
      refine F2_at hG (show j < us.length by omega) fun y0 y hy0 hy hY => ?_
      refine RdS.elK (hv.frame f) (show j < vs.length by omega) (by decide) fun bx o x' hx' hix hE => ?_
      refine RdS.elK (hu.frame f) (show j < us.length by omega) (by decide) fun bx2 o2 y' hy' hiy hE2 => ?_
      rw [hx0] at hx'
      cases hx'
      rw [hy0] at hy'
      cases hy'
      have hts := take_snoc_eq hx hy ht
      simp (disch := omega) only [go_sem, undef, hix, hiy, hE.ld0, hE2.ld0]
      refine callQ H (same_s (hX.frame f) (hY.frame f) (hl x (List.mem_of_getElem? hx)) (hr y (List.mem_of_getElem? hy))) fun M f2 H => ?_
      by_cases hxy : x = y
      · subst hxy
        simp (disch := omega) only [go_sem, undef, decide_eq_true (rfl : x = x)]
        exact handN_intro (l.length - (j + 1)) (by omega) ⟨j + 1, by omega, rfl, rfl, hts.2 rfl, H.fr⟩
      · simp (disch := omega) only [go_sem, undef, decide_eq_false hxy]
        exact ⟨by rw [decide_eq_false (ne_of_take hx hy hxy)], H.fr⟩
    · have e : j = l.length := by omega
      subst e
      rw [List.take_length, hll, List.take_length] at ht
      simp (disch := omega) only [go_sem, undef]
      exact ⟨by rw [decide_eq_true ht], f⟩
  · simp (disch := omega) only [go_sem, undef, dec_t (show ((vs.length : Nat) : Int) ≠ (us.length : Nat) by omega)]
    exact ⟨by rw [decide_eq_false (fun e => hll (by rw [e]))], Fr.refl _ _⟩
end Go.Fw
namespace Go.Fw
open Go.Proofs
variable {m m0 M : Mem} {S : List Nat} {L : List As}
variable {rb wb : Nat} {fv : Value} {rs : List Row} {D : Dk}
theorem len_sub {α : Type} [BEq α] [LawfulBEq α] : ∀ (l r : List α), l.Nodup → (∀ x ∈ l, x ∈ r) → l.length ≤ r.length
  | [], _, _, _ => by simp
  | x :: l, r, hn, hs => by
    have hx := hs x (List.mem_cons_self ..)
    obtain ⟨h1, h2⟩ := List.nodup_cons.1 hn
    have := len_sub l (r.erase x) h2 fun y hy => (List.mem_erase_of_ne (fun e => by subst e; exact h1 hy)).2 (hs y (List.mem_cons_of_mem _ hy))
    rw [List.length_erase_of_mem hx] at this
    have := List.length_pos_of_mem hx
    simp only [List.length_cons]; omega
theorem Gen.len {fl : List Fl} {g : Nat} {segs : List Bs} (G : Gen fl g segs) : fl.length ≤ segs.length := by
  have hn : (fl.map Fl.name).Nodup := G.srt.imp (S := (· ≠ ·)) (by intro a b h e; rw [e, bl_irr] at h; cases h)
  have := len_sub (fl.map Fl.name) ((List.range segs.length).map fun k => nmB g (k + 1)) hn fun x hx => by
    obtain ⟨y, hy, rfl⟩ := List.mem_map.1 hx
    obtain ⟨k, hk, e⟩ := G.only y hy
    exact List.mem_map.2 ⟨k, List.mem_range.2 hk, e.symm⟩
  simpa using this
theorem Gen.kp {fl : List Fl} {g : Nat} {segs : List Bs} (G : Gen fl g segs) : ∀ x ∈ fl, x.kept ≤ tot fl := fun x hx => by
  obtain ⟨k, hk, e⟩ := G.only x hx
  have h1 := mem_look G.srt hx
  have h2 := lookF_tot h1
  rw [e, G.seg k hk] at h1
  cases h1
  exact h2
theorem Gen.pl {fl : List Fl} {g : Nat} {segs : List Bs} (G : Gen fl g segs) (hg0 : 0 < g) (hg : g < 100) (hK : segs.length < 99) : ∀ x ∈ fl, PlOk x.name := fun x hx hn => by
  obtain ⟨k, hk, _⟩ := G.names hg0 hg hK x.name (List.mem_map_of_mem hx)
  rw [hk] at hn; cases hn
theorem Gen.n99 {fl : List Fl} {g : Nat} {segs : List Bs} (G : Gen fl g segs) (hg : g < 100) (hK : segs.length < 99) : ∀ g', g' < 100 → lookF (nmB g' 99) fl = none := fun g' hg' => G.noF hg hK hg' (by omega) (.inr (.inr hK))
theorem Okd.with {D : Dk} (h : Okd D) {F : List Fl} (hs : Srt F) : Okd { D with fl := F } := ⟨h.off, h.arm, hs⟩
/-- Open, over one generation -/
theorem open_g (h : (dkA rb fv rs D).p m) (ok : Okd D) {g n : Nat} {segs recs : List Bs} (G : Gen D.fl g segs) (R : SegR segs n recs) (hg0 : 0 < g) (hg : g < 100) (hK : segs.length < 98) (hT : tot D.fl ≤ 5000000) (hl : D.left ≤ 9223372036854775807) :
    CM Tryz.prog n_wal_Open [lpD rb] m (dkA rb fv rs D) fun u A => ∃ wb w vs fv rs F, u = .tuple #[lpD wb, w, .int .i64 0] ∧ A = starA (rbA w vs recs) (wlA wb rb fv rs ⟨g, segs.length, false⟩ { D with fl := F }) ∧ Gen F g segs ∧ tot F = tot D.fl := by
  obtain ⟨F, e, G2, ht⟩ := opF_gen ok G R hg0 hg (by omega)
  have hlen := G.len
  have := open_s h (G.pl hg0 hg (by omega)) (G.n99 hg (by omega)) (by omega) hT hl fun f hf => Nat.le_trans (G.kp f hf) (by omega)
  rw [e] at this
  exact this.mono fun u M ⟨A, ⟨wb, w, vs, fv, rs, e1, e2⟩, h2⟩ => ⟨A, ⟨wb, w, vs, fv, rs, F, e1, e2, G2, ht⟩, h2⟩
theorem open_0 (h : (dkA rb fv rs D).p m) (hf : D.fl = []) (hl : D.left ≤ 9223372036854775807) :
    CM Tryz.prog n_wal_Open [lpD rb] m (dkA rb fv rs D) fun u A => ∃ wb w vs fv rs, u = .tuple #[lpD wb, w, .int .i64 0] ∧ A = starA (rbA w vs []) (wlA wb rb fv rs ⟨0, 0, false⟩ D) := by
  have := open_s h (by rw [hf]; simp) (by rw [hf]; exact fun _ _ => rfl) (by rw [hf]; simp) (by rw [hf]; simp [tot]) hl (by rw [hf]; simp)
  rw [opF_nil hf] at this
  exact this.mono fun u M ⟨A, ⟨wb, w, vs, fv, rs, e1, e2⟩, h2⟩ => ⟨A, ⟨wb, w, vs, fv, rs, e1, e2⟩, h2⟩
theorem add_g {g n : Nat} {segs recs l : List Bs} {lv : Value} {vs : List Value} (h : (wlA wb rb fv rs ⟨g, segs.length, false⟩ D).p m) (ok : Okd D) (G : Gen D.fl g segs) (R : SegR segs n recs) (hg0 : 0 < g) (hg : g < 100) (hK : segs.length < 98) (hpos : 0 < segs.length) (hl0 : l ≠ [])
    (hv : RdS 1 v1 m lv vs) (hF : F2 (fun v l => RdB m v l) vs l) (hok : ∀ p ∈ l, okR p) (hlt : l.flatten.length ≤ 100000000) (hvl : vs.length ≤ 1000000) (hT : tot D.fl ≤ 5000000) (hl : D.left ≤ 9223372036854775807) (hq : D.quota ≤ 500000000) (hr : tot D.fl + (frs l).length ≤ D.quota) :
    CM Tryz.prog n_wal_Wal_Add [lpD wb, lv] m (wlA wb rb fv rs ⟨g, segs.length, false⟩ D) fun u A => ∃ fv rs F segs', u = .int .i64 0 ∧ A = wlA wb rb fv rs ⟨g, segs'.length, false⟩ { D with fl := F } ∧ Gen F g segs' ∧ SegR segs' n (recs ++ l) ∧ tot F = tot D.fl + (frs l).length ∧
      segs' = if 4096 < (segs.getLast (List.ne_nil_of_length_pos hpos)).length then segs ++ [frs l] else segs.dropLast ++ [segs.getLast (List.ne_nil_of_length_pos hpos) ++ frs l] := by
  obtain ⟨F, segs', e, G2, R2, ht, es⟩ := add_gen ok G R hg0 hg hK hpos hl0 hok hr
  have hlen := G.len
  have := add_s h hg (by simp only; omega) hv hF hok hvl hlt (by omega) hl (by omega) hq
  rw [e] at this
  exact this.mono fun u M ⟨A, ⟨e1, fv, rs, e2⟩, h2⟩ => ⟨A, ⟨fv, rs, F, segs', e1, e2, G2, R2, ht, es⟩, h2⟩
theorem anew_g {g : Nat} {segs l : List Bs} {lv : Value} {vs : List Value} (h : (wlA wb rb fv rs ⟨g, segs.length, false⟩ D).p m) (ok : Okd D) (G : Gen D.fl g segs) (hg : g < 99) (hK : segs.length < 98)
    (hv : RdS 1 v1 m lv vs) (hF : F2 (fun v l => RdB m v l) vs l) (hok : ∀ p ∈ l, okR p) (hlt : l.flatten.length ≤ 100000000) (hvl : vs.length ≤ 1000000) (hT : tot D.fl ≤ 5000000) (hl : D.left ≤ 9223372036854775807) (hq : D.quota ≤ 500000000) (hr : tot D.fl + (hdR l).length ≤ D.quota) :
    CM Tryz.prog n_wal_Wal_Anew [lpD wb, lv] m (wlA wb rb fv rs ⟨g, segs.length, false⟩ D) fun u A => ∃ fv rs F, u = .int .i64 0 ∧ A = wlA wb rb fv rs ⟨g + 1, 1, false⟩ { D with fl := F } ∧ Gen F (g + 1) [hdR l] ∧ SegR [hdR l] l.length l ∧ tot F ≤ tot D.fl + (hdR l).length := by
  have hvl2 := F2_len hF
  obtain ⟨F, e, G2, R2, ht⟩ := anew_gen ok G hg (by omega) hok hr (by omega)
  have hlen := G.len
  have := anew_s h hg (by simp only; omega) hv hF hok hvl hlt (by omega) hl (by omega) hq
  rw [e] at this
  exact this.mono fun u M ⟨A, ⟨e1, fv, rs, e2⟩, h2⟩ => ⟨A, ⟨fv, rs, F, e1, e2, G2, R2, ht⟩, h2⟩
theorem gen_nil : Gen [] 0 [] := ⟨List.Pairwise.nil, fun k h => by simp at h, fun x hx => by simp at hx⟩
end Go.Fw
