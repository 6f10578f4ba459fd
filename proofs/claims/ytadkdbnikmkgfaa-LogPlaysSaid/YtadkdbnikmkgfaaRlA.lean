import Derived.Test.YtadkdbnikmkgfaaBsZ
import Derived.Test.YtadkdbnikmkgfaaPkU
import Derived.Test.YtadkdbnikmkgfaaCdC
import Derived.Test.YtadkdbnikmkgfaaBsR
set_option linter.unusedSimpArgs false
set_option linter.unusedVariables false
namespace Go.Fw
open Go.Proofs
variable {m m0 M : Mem} {S : List Nat} {L : List As}
theorem RdS.elA {α : Type} {k : Nat} {enc : α → List Value} {a : Option Addr} {c i b o : Nat} {l : List α} {x : α} (h : RdS k enc M (.slice a l.length c) l) (hi : l[i]? = some x) (k0 : 0 < k) (hx : IxAt k (.slice a l.length c) i b o) : El k enc M b o x := by
  obtain ⟨hlt, rfl⟩ := List.getElem?_eq_some_iff.1 hi
  obtain ⟨b2, o2, h1, _, h3⟩ := h.el hlt k0
  have e := (hx .i64 M).symm.trans (h1 .i64 M)
  simp only [Option.some.injEq, Value.pointer.injEq, Addr.mk.injEq, and_true] at e
  obtain ⟨rfl, rfl⟩ := e
  exact ⟨h.1 _, h3⟩
/-! an element of a row of one's own is written -/
section
variable {α : Type} {k : Nat} {enc : α → List Value}
theorem flat_set (hk : ∀ x, (enc x).length = k) : ∀ (l : List α) (i : Nat) (y : α), i < l.length → (l.flatMap enc).take (i * k) ++ enc y ++ (l.flatMap enc).drop (i * k + k) = (l.set i y).flatMap enc
  | x :: r, 0, y, _ => by simp [hk]
  | x :: r, i + 1, y, h => by
    have ih := flat_set hk r i y (by simpa using h)
    rw [List.set_cons_succ, List.flatMap_cons, List.flatMap_cons, ← ih, List.take_append, List.drop_append, hk]
    have h1 : (enc x).take ((i + 1) * k) = enc x := List.take_of_length_le (by rw [hk, Nat.add_mul]; omega)
    have h2 : (enc x).drop ((i + 1) * k + k) = [] := List.drop_eq_nil_iff.2 (by rw [hk, Nat.add_mul]; omega)
    rw [h1, h2, show (i + 1) * k - k = i * k from by rw [Nat.add_mul]; omega, show (i + 1) * k + k - k = i * k + k from by rw [Nat.add_mul]; omega]
    simp
theorem st_own {t : TypeId} {v : Value} {l : List α} {i b o : Nat} {J : Mem → Prop} {lk : Lk J} {lk' : Lk m} (H : Hq m0 m S (ownA t k v l.length (l.flatMap enc) :: L)) (hx : IxAt k v i b o) (hi : i < l.length) (hk : ∀ x, (enc x).length = k) (y : α) (h1 : (enc y).all Value.oneCell' = true)
    (K : ∀ M, Fr m M (blkOf v) → Hq m0 M S (ownA t k v l.length ((l.set i y).flatMap enc) :: L) → J M) : stQ m ⟨b, o, none⟩ 0 (enc y) J lk lk' := by
  have ho := H.at 0 rfl
  obtain ⟨bb, cap, tail, rfl, hb, hcap, hlen⟩ := Own.row ho (by omega)
  have e := hx .i64 m
  have hcl : l.length ≤ cap ∨ k = 0 := by
    rcases Nat.eq_zero_or_pos k with h | h
    · exact .inr h
    · exact .inl (Nat.le_of_mul_le_mul_right hcap h)
  rw [rd_ixs _ _ _ _ _ _ (by omega), Int.toNat_natCast, add_mk] at e
  simp only [Option.some.injEq, Value.pointer.injEq, Addr.mk.injEq, and_true, Nat.zero_add] at e
  obtain ⟨rfl, rfl⟩ := e
  have hik : i * k + k ≤ l.length * k := by
    have := Nat.mul_le_mul_right k hi
    rw [Nat.succ_mul] at this; exact this
  have hst := stCells_row (t := t) (b := bb) (o := i * k) (enc y) 0 m (l.flatMap enc ++ tail) hb (by rw [hk, List.length_append]; omega) (fun v hv => List.all_eq_true.1 h1 v hv)
  simp only [Nat.add_zero, hk] at hst
  rw [List.take_append_of_le_length (by omega), List.drop_append_of_le_length (by omega), ← List.append_assoc, flat_set hk l i y hi] at hst
  refine ⟨_, hst, K _ (Fr.set (by simp [blkOf])) ?_⟩
  have hl2 : ((l.set i y).flatMap enc).length = (l.flatMap enc).length := by rw [fm_len hk, fm_len hk, List.length_set]
  refine H.rep0 (A' := ownA t k (.slice (some ⟨bb, 0, none⟩) l.length cap) l.length ((l.set i y).flatMap enc)) ⟨by rw [hl2]; exact ho.1, .inr ⟨bb, cap, tail, rfl, set_self _ _, ?_⟩⟩ (Fr.set (by simp [blkOf])) (fun b hb => .inl hb) (fun b hb => .inl hb)
  rcases ho.2 with ⟨h, _⟩ | ⟨b2, cap2, tail2, h, hb2, h3⟩
  · cases h
  · cases h
    rw [hb] at hb2
    simp only [Option.some.injEq, Obj.cells.injEq] at hb2
    have e3 := congrArg List.length (congrArg Array.toList hb2.1)
    simp only [List.length_append] at e3 h3 ⊢
    rw [hl2]; simp at e3; omega
end
/-! the document's log -/
def logR (wb : Nat) (iv cv : Value) (cut : Dp) (l : LogL) : As :=
  starA (cellA wb (.cells (iv :: cv :: dv cut).toArray T_ref15_Log (0, 0))) (starA (ownA T_api_Inst 2 iv l.length ((l.map (·.1)).flatMap pc)) (ownA T_api_Cell 21 cv l.length ((l.map (·.2)).flatMap Cel.cs)))
instance {wb : Nat} {iv cv : Value} {cut : Dp} {l : LogL} {L : List As} {G : List (Nat × Obj)} [I : CellF L G] : CellF (logR wb iv cv cut l :: L) ((wb, .cells (iv :: cv :: dv cut).toArray T_ref15_Log (0, 0)) :: G) := ⟨fun m h => ⟨(Hq.split (Hq.one (A := logR wb iv cv cut l) h.1)).cs.1, I.h m h.2⟩⟩
theorem logR_box {wb : Nat} {iv cv : Value} {cut : Dp} {l : LogL} (h : (logR wb iv cv cut l).p m) : m wb = some (.cells (iv :: cv :: dv cut).toArray T_ref15_Log (0, 0)) := (Hq.split (Hq.one (A := logR wb iv cv cut l) h)).cs.1
theorem logR_I {wb : Nat} {iv cv : Value} {cut : Dp} {l : LogL} (h : (logR wb iv cv cut l).p m) : RdS 2 pc m iv (l.map (·.1)) := by
  have := h.2.1.1
  exact Own.rds (by decide) pc_len (by rw [List.length_map]; exact this)
theorem logR_C {wb : Nat} {iv cv : Value} {cut : Dp} {l : LogL} (h : (logR wb iv cv cut l).p m) : RdS 21 Cel.cs m cv (l.map (·.2)) := by
  have := h.2.1.2.1
  exact Own.rds (by decide) Cel.len (by rw [List.length_map]; exact this)
theorem logR_open {wb : Nat} {iv cv : Value} {cut : Dp} {l : LogL} (H : Hq m0 m S (logR wb iv cv cut l :: L)) : Hq m0 m S (cellA wb (.cells (iv :: cv :: dv cut).toArray T_ref15_Log (0, 0)) :: ownA T_api_Inst 2 iv l.length ((l.map (·.1)).flatMap pc) :: ownA T_api_Cell 21 cv l.length ((l.map (·.2)).flatMap Cel.cs) :: L) := upQ2 (upQ1 H.split).split
theorem logR_close {wb : Nat} {iv cv : Value} {cut : Dp} {l : LogL} (H : Hq m0 m S (cellA wb (.cells (iv :: cv :: dv cut).toArray T_ref15_Log (0, 0)) :: ownA T_api_Inst 2 iv l.length ((l.map (·.1)).flatMap pc) :: ownA T_api_Cell 21 cv l.length ((l.map (·.2)).flatMap Cel.cs) :: L)) : Hq m0 m S (logR wb iv cv cut l :: L) := (downQ1 (downQ2 H).join).join
/-- where an instance stands, or would -/
def kOf (i : Int × Int) : LogL → Nat
  | [] => 0
  | p :: r => if lt2 p.1 i then kOf i r + 1 else 0
theorem kOf_eq {i : Int × Int} : ∀ {l : LogL} {k : Nat}, k ≤ l.length → (∀ j p, j < k → l[j]? = some p → lt2 p.1 i) → (∀ p, l[k]? = some p → ¬ lt2 p.1 i) → kOf i l = k
  | [], k, h, _, _ => by simp at h; simp [kOf, h]
  | p :: r, 0, _, _, h3 => by simp only [kOf]; rw [if_neg (h3 p rfl)]
  | p :: r, k + 1, h1, h2, h3 => by
    simp only [kOf]
    rw [if_pos (h2 0 p (by omega) rfl), kOf_eq (k := k) (by simpa using h1) (fun j q hj hq => h2 (j + 1) q (by omega) (by simpa using hq)) (fun q hq => h3 q (by simpa using hq))]
theorem kOf_le (i : Int × Int) : ∀ l : LogL, kOf i l ≤ l.length
  | [] => Nat.le_refl _
  | p :: r => by simp only [kOf]; split <;> simp; exact kOf_le i r
abbrev AscL (l : LogL) : Prop := Asc (keysC l)
theorem kOf_lk {i : Int × Int} : ∀ {l : LogL}, AscL l → lkC i l = (l[kOf i l]?).bind fun p => if p.1 = i then some p.2 else none
  | [], _ => rfl
  | (a, c) :: r, h => by
    have hr : AscL r := (List.pairwise_cons.1 h).2
    have ha := (List.pairwise_cons.1 h).1
    simp only [lkC, kOf]
    by_cases e : a = i
    · subst e
      have : ¬ lt2 a a := by unfold lt2; omega
      simp [this]
    · rw [if_neg e]
      by_cases hl : lt2 a i
      · rw [if_pos hl, List.getElem?_cons_succ, kOf_lk hr]
      · rw [if_neg hl]
        simp only [List.getElem?_cons_zero, Option.bind_some, if_neg e]
        refine lkC_none.2 fun hm => ?_
        have := ha i hm
        exact hl this
theorem ref15_at_s {wb : Nat} {iv cv : Value} {cut : Dp} {l : LogL} (h : (logR wb iv cv cut l).p m) (hs : AscL l) (hl : l.length ≤ 1000000) (i : Int × Int) :
    MC Try.prog n_ref15_Log_at [lpp wb, pv i] m fun v m' => v = .tuple #[.int .i64 (kOf i l : Nat), .bool (lkC i l).isSome] ∧ Fr m m' [] := by
  have hI := logR_I h
  obtain ⟨a, c, rfl⟩ := hI.form
  have hlm : (l.map (·.1)).length = l.length := List.length_map ..
  refine ref15_Log_at_go (by simp [Try.f33]) ?_
  have H := Hq.refl m []
  simp (disch := omega) only [go_sem, undef]
  refine newQ H fun b1 M0 f0 H => ?_
  simp (disch := omega) only [go_sem, undef]
  refine loopQ_intro (fun n E m' => ∃ k, k ≤ l.length ∧ n = l.length - k ∧ E = [(0, lpp wb), (3, .pointer (some ⟨b1, 0, none⟩)), (6, .int .i64 (k : Nat))] ∧ (∀ j p, j < k → l[j]? = some p → lt2 p.1 i) ∧
    Hq m m' [] [cellA b1 (.cells (pc i).toArray T_api_Inst (0, 0))]) l.length rfl ⟨0, by omega, rfl, rfl, by simp, H⟩ ?_
  clear H f0
  rintro n E m' ⟨k, hk, rfl, rfl, hpre, H⟩
  have hbox := H.fr.get0 (logR_box h)
  have hIm := RdS.frame hI H.fr
  by_cases h1 : k < l.length
  · refine RdS.elK hIm (i := k) (by rw [hlm]; exact h1) (by decide) fun b2 o2 x hx hix hE => ?_
    rw [List.getElem?_map] at hx
    have hlk : l[k]? = some l[k] := List.getElem?_eq_getElem h1
    rw [hlk] at hx
    simp only [Option.map_some, Option.some.injEq] at hx
    generalize l[k] = p at hlk hx
    subst hx
    have hix2 := hix
    rw [hlm] at hix2
    simp (disch := omega) only [go_sem, undef, hbox, dec_t, hix2, hE.lda0, H.cs]
    refine callQ H (ref1_Less_s p.1 i _) fun M f H => ?_
    by_cases hlt : lt2 p.1 i
    · simp (disch := omega) only [go_sem, undef, decide_eq_true hlt]
      refine handN_intro (l.length - (k + 1)) (by omega) ⟨k + 1, by omega, rfl, rfl, fun j q hj hq => ?_, H⟩
      rcases Nat.lt_or_eq_of_le (Nat.le_of_lt_succ hj) with h | h
      · exact hpre j q h hq
      · subst h; rw [hlk] at hq; cases hq; exact hlt
    · have hbox2 := H.fr.get0 (logR_box h)
      have hE2 : El 2 pc M b2 o2 p.1 := RdS.elA (RdS.frame hI H.fr) (by rw [List.getElem?_map, hlk]; rfl) (by decide) hix
      have hkk : kOf i l = k := kOf_eq hk hpre (fun q hq => by rw [hlk] at hq; cases hq; exact hlt)
      simp (disch := omega) only [go_sem, undef, decide_eq_false hlt, hbox2, dec_t, hix2, hE2.lda0, H.cs]
      refine ⟨?_, H.fr⟩
      rw [kOf_lk hs, hkk, hlk]
      by_cases e : p.1 = i <;> simp [e]
  · have hkk : kOf i l = k := kOf_eq hk hpre (fun q hq => by rw [List.getElem?_eq_none (by omega)] at hq; cases hq)
    simp (disch := omega) only [go_sem, undef, hbox, dec_f, H.cs]
    refine ⟨?_, H.fr⟩
    rw [kOf_lk hs, hkk, List.getElem?_eq_none (by omega)]
    simp
theorem logR_len {wb : Nat} {iv cv : Value} {cut : Dp} {l : LogL} (h : (logR wb iv cv cut l).p m) : True := trivial
theorem ref15_LCell_s {wb : Nat} {iv cv : Value} {cut : Dp} {l : LogL} (h : (logR wb iv cv cut l).p m) (hs : AscL l) (hl : l.length ≤ 1000000) (i : Int × Int) :
    MC Try.prog n_ref15_Log_Cell [lpp wb, pv i] m fun v m' => v = .tuple #[((lkC i l).getD Cel.zero).v, .bool (lkC i l).isSome] ∧ Fr m m' [] := by
  have hC := logR_C h
  obtain ⟨a, c, rfl⟩ := hC.form
  have hlm : (l.map (·.2)).length = l.length := List.length_map ..
  refine ref15_Log_Cell_go (by simp [Try.f33]) ?_
  have H := Hq.refl m []
  simp (disch := omega) only [go_sem, undef]
  refine newQ H fun b1 M0 f0 H => ?_
  simp (disch := omega) only [go_sem, undef]
  refine newQ H fun b2 M0 f0 H => ?_
  simp (disch := omega) only [go_sem, undef, H.cs]
  have h0 : (logR wb iv (.slice a (l.map (·.2)).length c) cut l).p M0 := As.fr0 h H.fr
  refine callQ H (ref15_at_s h0 hs hl i) fun M f H => ?_
  have hbox := H.fr.get0 (logR_box h)
  cases hlk : lkC i l with
  | none =>
    simp (disch := omega) only [go_sem, undef, Option.isSome_none]
    refine stwQ0 H rfl rfl fun M f H => ?_
    simp (disch := omega) only [go_sem, undef, H.cs]
    exact ⟨rfl, H.fr⟩
  | some x =>
    have hk : l[kOf i l]? = some (i, x) := by
      rw [kOf_lk hs] at hlk
      cases hg : l[kOf i l]? with
      | none => rw [hg] at hlk; cases hlk
      | some p =>
        rw [hg] at hlk
        simp only [Option.bind_some] at hlk
        split at hlk
        · rename_i e; cases hlk; subst e; rfl
        · cases hlk
    have hlt := (List.getElem?_eq_some_iff.1 hk).1
    refine RdS.elK (RdS.frame hC H.fr) (i := kOf i l) (by rw [hlm]; exact hlt) (by decide) fun b3 o3 y hy hix hE => ?_
    rw [List.getElem?_map, hk] at hy
    simp only [Option.map_some, Option.some.injEq] at hy
    subst hy
    rw [hlm] at hix
    simp (disch := omega) only [go_sem, undef, Option.isSome_some, hbox, hix, hE.lda0]
    refine stwQ0 H rfl rfl fun M f H => ?_
    simp (disch := omega) only [go_sem, undef, H.cs]
    exact ⟨rfl, H.fr⟩
theorem ref15_Gone_s {wb : Nat} {iv cv : Value} {cut : Dp} {l : LogL} (h : (logR wb iv cv cut l).p m) (k : Int × Int) :
    MC Try.prog n_ref15_Log_Gone [lpp wb, pv k] m fun v m' => v = .bool (decide (rightI k ∧ k.2 ≤ cut.g k.1.toNat)) ∧ Fr m m' [] := by
  refine ref15_Log_Gone_go (by simp [Try.f33]) ?_
  have H := Hq.refl m []
  simp (disch := omega) only [go_sem, undef]
  refine newQ H fun b M f H => ?_
  simp (disch := omega) only [go_sem, undef, H.cs]
  refine callQ H (ref1_RightInst_s k M) fun M f H => ?_
  have hbox := H.fr.get0 (logR_box h)
  by_cases hr : rightI k
  · obtain ⟨h1, h2, h3, h4⟩ := hr
    simp (disch := omega) only [go_sem, undef, H.cs, hbox, dec_t (show rightI k from ⟨h1, h2, h3, h4⟩), Nat.add_comm 2]
    exact ⟨by simp [h1, h2, h3, h4, rightI], H.fr⟩
  · simp (disch := omega) only [go_sem, undef, H.cs, hbox, dec_f hr]
    exact ⟨by simp [hr], H.fr⟩
end Go.Fw
