import Derived.Test.YtpjecpkkcabnjaaGreatDoorFxB
import Derived.Test.YtpjecpkkcabnjaaGreatDoorSh
import Derived.Test.YtpjecpkkcabnjaaGreatDoorCd
set_option linter.unusedVariables false
set_option linter.unusedSimpArgs false
/-! Words and texts of the shell. -/
namespace Go.Fw
open Go.Proofs Go.Sh
variable {m m0 M : Mem} {S : List Nat} {L : List As}
def zb (l : List UInt8) : ByteArray := ⟨l.toArray⟩
abbrev strV (l : List UInt8) : Value := .string (zb l)
theorem zb_size (l : List UInt8) : (zb l).size = l.length := by simp [zb, ByteArray.size]
theorem rd_lenz_zb (l : List UInt8) (m : Mem) : rd .lenz [.string (zb l)] m = some (.int .i64 (l.length : Nat)) := by
  show some (Value.int .i64 (zb l).size) = _
  rw [zb_size]
theorem rd_idxs_l {l : List UInt8} {j : Nat} {c : UInt8} {k : IntKind} (h : l[j]? = some c) : rd .idxs [strV l, .int k (j : Nat)] m = some (.int .u8 (c.toNat : Nat)) := by
  rw [rd_idxs _ _ _ (by omega)]
  have hlt := (List.getElem?_eq_some_iff.1 h).1
  have : (zb l)[((j : Nat) : Int).toNat]? = some c := by
    have e : (zb l)[j]? = some (l[j]) := by
      rw [getElem?_pos (zb l) j (by rw [zb_size]; exact hlt)]; rfl
    rw [Int.toNat_natCast, e]
    rw [← h, List.getElem?_eq_getElem hlt]
  rw [this]; rfl
theorem Hq.ofCell {m0 m : Mem} {S : List Nat} {L : List As} {t : TypeId} {size n b cap : Nat} {xs tail : List Value} (H : Hq m0 m S (cellA b (.cells (xs ++ tail).toArray t (0, 0)) :: L)) (hx : xs.length = n * size) (hl : (xs ++ tail).length = cap * size) :
    Hq m0 m S (ownA t size (.slice (some ⟨b, 0, none⟩) n cap) n xs :: L) :=
  H.rep0 (A' := ownA t size (.slice (some ⟨b, 0, none⟩) n cap) n xs) ⟨hx, .inr ⟨b, cap, tail, rfl, by have h := H.hs.1; with_unfolding_all exact h, hl⟩⟩ (Fr.refl _ _) (fun x hx => .inl (by simpa [blkOf] using hx)) (fun x hx => .inl (by simpa [blkOf] using hx))
theorem plain_s (c : UInt8) (m : Mem) : MC Tryz.prog n_shell_plain [.int .u8 (c.toNat : Int)] m fun v m' => v = .bool (Go.Sh.plainB c) ∧ Fr m m' [] := by
  refine shell_plain_go (by simp [Tryz.f33]) ?_
  have H := Hq.refl m []
  unfold Go.Sh.plainB
  simp (disch := omega) only [go_sem, undef]
  repeat' (first
    | ((first
      | (with_reducible first
        | refine newQ H fun _ _ f H2 => ?_
        | refine wrQ0 H fun _ f H2 => ?_
        | refine wrQ1 H fun _ f H2 => ?_
        | refine wrQ2 H fun _ f H2 => ?_
        | refine wrQ3 H fun _ f H2 => ?_
        | refine wrQ4 H fun _ f H2 => ?_
        | refine wrQ5 H fun _ f H2 => ?_)
      | ((with_reducible refine stwQ0 H ?hl ?h1 fun _ f H2 => ?_); (case hl => rfl); (case h1 => rfl))
      | ((with_reducible refine stwQ1 H ?hl ?h1 fun _ f H2 => ?_); (case hl => rfl); (case h1 => rfl))
      | ((with_reducible refine stwQ2 H ?hl ?h1 fun _ f H2 => ?_); (case hl => rfl); (case h1 => rfl))
      | ((with_reducible refine stwQ3 H ?hl ?h1 fun _ f H2 => ?_); (case hl => rfl); (case h1 => rfl))
      | ((with_reducible refine stwQ4 H ?hl ?h1 fun _ f H2 => ?_); (case hl => rfl); (case h1 => rfl))
      | ((with_reducible refine stwQ5 H ?hl ?h1 fun _ f H2 => ?_); (case hl => rfl); (case h1 => rfl))
      | ((with_reducible refine stQ0 H ?hl ?h1 fun _ f H2 => ?_); (case hl => exact Nat.le_of_ble_eq_true rfl); (case h1 => rfl); (simp only [go_sem] at H2))
      | ((with_reducible refine stQ1 H ?hl ?h1 fun _ f H2 => ?_); (case hl => exact Nat.le_of_ble_eq_true rfl); (case h1 => rfl); (simp only [go_sem] at H2))
      | ((with_reducible refine stQ2 H ?hl ?h1 fun _ f H2 => ?_); (case hl => exact Nat.le_of_ble_eq_true rfl); (case h1 => rfl); (simp only [go_sem] at H2))
      | ((with_reducible refine stQ3 H ?hl ?h1 fun _ f H2 => ?_); (case hl => exact Nat.le_of_ble_eq_true rfl); (case h1 => rfl); (simp only [go_sem] at H2))); clear f; clear H; have H := H2; clear H2; simp (disch := omega) only [go_sem, undef, H.cs, *])
    | ((with_reducible refine gQ_split (fun hq => ?_) (fun hq => ?_)) <;> (try simp only [Bool.not_true, Bool.not_false] at hq) <;> simp (disch := omega) only [go_sem, undef, H.cs, *])
    | ((with_reducible refine condB_split (fun hq => ?_) (fun hq => ?_)) <;> simp (disch := omega) only [go_sem, undef, H.cs, *]))
  all_goals (try simp only [decide_eq_true_eq, decide_eq_false_iff_not] at *)
  · have h1 : 32 < c.toNat := by omega
    have h2 : c.toNat < 127 := by omega
    exact ⟨by by_cases h : c.toNat = 37 <;> simp [h, h1, h2] <;> omega, H.fr⟩
  · exact ⟨by rw [decide_eq_false (by omega)], H.fr⟩
  · exact ⟨by rw [decide_eq_false (by omega)], H.fr⟩
theorem hexS_at : ∀ {n : Nat}, n < 16 → (ByteArray.mk #[48, 49, 50, 51, 52, 53, 54, 55, 56, 57, 97, 98, 99, 100, 101, 102])[n]? = some (hexD n) := by decide
theorem u8_shr4 (c : UInt8) (m : Mem) : rd (.ish .shr) [.int .u8 (c.toNat : Nat), .int .u64 4] m = some (.int .u8 (c.toNat / 16 : Nat)) := by
  have hc := c.toNat_lt
  simp only [rd, rdp, RO.reads, j2]
  rw [if_neg (by decide)]
  congr 2
  have : (min (4 : Int).toNat IntKind.u8.bits) = 4 := by decide
  rw [this]
  show ((c.toNat : Nat) : Int).fdiv (2 ^ 4) = _
  rw [Int.fdiv_eq_ediv_of_nonneg _ (by decide)]
  omega
theorem u8_and15 (c : UInt8) (m : Mem) : rd (.ibt .and) [.int .u8 (c.toNat : Nat), .int .u8 15] m = some (.int .u8 (c.toNat % 16 : Nat)) := by
  have : ∀ x : Fin 256, IntKind.u8.wrap (BitVec.ofInt IntKind.u8.bits (x.val : Int) &&& BitVec.ofInt IntKind.u8.bits 15).toNat = ((x.val % 16 : Nat) : Int) := by with_unfolding_all decide +kernel
  simp only [rd, rdp, RO.reads, i2, if_true]
  rw [this ⟨c.toNat, c.toNat_lt⟩]
set_option maxHeartbeats 1000000 in
theorem word_s (l : List UInt8) (hl : l.length ≤ 1000000) (m : Mem) : MC Tryz.prog n_shell_word [strV l] m fun v m' => v = strV (wordL l) ∧ Fr m m' [] := by
  refine shell_word_go (by simp [Tryz.f33]) ?_
  have H := Hq.refl m []
  simp (disch := omega) only [go_sem, undef]
  refine newQ H fun b M f H => ?_
  have H := Hq.ofCell (size := 1) (n := 1) (cap := 1) (xs := [.int .u8 61]) (tail := []) H rfl rfl
  simp (disch := omega) only [go_sem, undef, rd_lenz_zb]
  refine loopQ_intro (fun k E m' => ∃ (j : Nat) (w : Value), j ≤ l.length ∧ k = l.length - j ∧ E = [(0, strV l), (3, w), (8, .int .i64 (l.length : Nat)), (9, .int .i64 (j : Nat))] ∧ Hq m m' [] [byA T_uint8 w (61 :: (l.take j).flatMap enc1)]) l.length rfl ⟨0, _, by omega, rfl, rfl, H⟩ ?_
  clear H f
  rintro k E M1 ⟨j, w, hj, rfl, rfl, H⟩
  by_cases hlt : j < l.length
  · have hc : l[j]? = some l[j] := List.getElem?_eq_getElem hlt
    have htk : l.take (j + 1) = l.take j ++ [l[j]] := by rw [List.take_add_one, hc]; rfl
    have hlen : ((l.take j).flatMap enc1).length ≤ 3 * j := by
      have : ∀ s : List UInt8, (s.flatMap enc1).length ≤ 3 * s.length := fun s => by
        have := wordL_len s
        unfold wordL at this
        rw [List.length_cons] at this; omega
      have := this (l.take j)
      rw [List.length_take] at this; omega
    generalize l[j] = c at *
    generalize hF : (l.take j).flatMap enc1 = F at *
    simp (disch := omega) only [go_sem, undef, dec_t (show ((j : Nat) : Int) < (l.length : Nat) by omega), rd_idxs_l hc]
    refine callQ H (plain_s c _) fun M f H => ?_
    by_cases hp : Go.Sh.plainB c = true
    · rw [hp]
      simp (disch := omega) only [go_sem, undef]
      refine newQ H fun b1 M f H => ?_
      simp (disch := omega) only [go_sem, undef]
      refine appQ1 H (k := 1) rfl (ldS_cell (l := [_]) H.cs.1 (by simp)) rfl (by simp [Value.oneCell']) rfl (by rw [List.length_cons]; omega) (by rw [List.length_cons]; omega) fun w2 M f H => ?_
      have H := H.tail
      rw [show [Value.int IntKind.u8 ((c.toNat : Nat) : Int)].take (1 * 1) = bys [c] from rfl] at H
      have H : Hq m M [] [byA T_uint8 w2 (61 :: (l.take (j + 1)).flatMap enc1)] := by
        rw [htk, List.flatMap_append, List.flatMap_singleton, enc1_plain hp, hF, ← List.cons_append, ← byA_app]; exact H
      simp (disch := omega) only [go_sem, undef]
      exact handN_intro (l.length - (j + 1)) (by omega) ⟨j + 1, w2, by omega, rfl, rfl, H⟩
    · have hp' : Go.Sh.plainB c = false := by simpa using hp
      rw [hp']
      have hcl := c.toNat_lt
      simp (disch := omega) only [go_sem, undef, u8_shr4, u8_and15, hexS_at (n := c.toNat / 16) (by omega), hexS_at (n := c.toNat % 16) (by omega)]
      refine newQ H fun b1 M f H => ?_
      simp (disch := omega) only [go_sem, undef]
      refine appQ1 H (k := 3) rfl (ldS_cell (l := [_, _, _]) H.cs.1 (by simp)) rfl (by simp [Value.oneCell']) rfl (by rw [List.length_cons]; omega) (by rw [List.length_cons]; omega) fun w2 M f H => ?_
      have H := H.tail
      rw [show ([Value.int IntKind.u8 37, Value.int IntKind.u8 ((hexD (c.toNat / 16)).toNat : Nat), Value.int IntKind.u8 ((hexD (c.toNat % 16)).toNat : Nat)] : List Value).take (3 * 1) = bys [37, hexD (c.toNat / 16), hexD (c.toNat % 16)] from rfl] at H
      have H : Hq m M [] [byA T_uint8 w2 (61 :: (l.take (j + 1)).flatMap enc1)] := by
        rw [htk, List.flatMap_append, List.flatMap_singleton, enc1_hex hp, hF, ← List.cons_append, ← byA_app]; exact H
      simp (disch := omega) only [go_sem, undef]
      exact handN_intro (l.length - (j + 1)) (by omega) ⟨j + 1, w2, by omega, rfl, rfl, H⟩
  · have e : j = l.length := by omega
    subst e
    rw [List.take_length] at H
    simp (disch := omega) only [go_sem, undef, dec_f (show ¬ ((l.length : Nat) : Int) < (l.length : Nat) by omega)]
    obtain ⟨hw, hr⟩ : (∃ a c, w = .slice a (wordL l).length c) ∧ RdB M1 w (wordL l) := by
      have h := byA_rd H.hs.1
      exact ⟨(by obtain ⟨_, a, c, e, _, _⟩ := h; exact ⟨a, c, e⟩), h⟩
    obtain ⟨a, c, rfl⟩ := hw
    simp (disch := omega) only [go_sem, undef, rd_b2s hr]
    exact ⟨rfl, H.fr⟩
end Go.Fw
