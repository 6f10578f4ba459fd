import Derived.Test.YtpjecpkkcabnjaaGreatDoorSwA
import Derived.Test.YtpjecpkkcabnjaaGreatDoorCdL
set_option linter.unusedVariables false
set_option linter.unusedSimpArgs false
/-! A text out of a word. -/
namespace Go.Fw
open Go.Proofs Go.Sh
variable {m m0 M : Mem} {S : List Nat} {L : List As}
abbrev hexB : ByteArray := ⟨#[48, 49, 50, 51, 52, 53, 54, 55, 56, 57, 97, 98, 99, 100, 101, 102]⟩
theorem rd_ixb (s : ByteArray) (c : UInt8) (m : Mem) : rd .ixb [.string s, .int .u8 (c.toNat : Nat)] m = some (.int .i64 (firstIdx s c)) := by
  have : ((c.toNat : Nat) : Int).toNat.toUInt8 = c := by rw [Int.toNat_natCast]; simp
  simp only [rd, rdp, rdm, RO.reads, ixB, this]
theorem ib_s (s : ByteArray) (c : UInt8) (m : Mem) : MC Tryz.prog n_strings_IndexByte [.string s, .int .u8 (c.toNat : Nat)] m fun v m' => v = .int .i64 (firstIdx s c) ∧ Fr m m' [] := by
  refine strings_IndexByte_go (by simp [Tryz.f33]) ?_
  have H := Hq.refl m []
  simp (disch := omega) only [go_sem, undef]
  have h : MC Tryz.prog n_internal_stringslite_IndexByte [.string s, .int .u8 (c.toNat : Nat)] m fun v m' => v = .int .i64 (firstIdx s c) ∧ Fr m m' [] := by
    refine internal_stringslite_IndexByte_go (by simp [Tryz.f33]) ?_
    simp (disch := omega) only [go_sem, undef, rd_ixb]
    exact ⟨rfl, H.fr⟩
  refine callQ H h fun M f H => ?_
  simp (disch := omega) only [go_sem, undef]
  exact ⟨rfl, H.fr⟩
theorem hex_max (c : UInt8) : max (firstIdx hexB c) 0 = (hexV c : Nat) := by
  have : ∀ n : Fin 256, max (firstIdx hexB (UInt8.ofNat n.val)) 0 = (hexV (UInt8.ofNat n.val) : Nat) := by decide +kernel
  have h := this ⟨c.toNat, c.toNat_lt⟩
  simpa using h
theorem hexV_lt (c : UInt8) : hexV c < 16 := by unfold hexV; split; omega; split <;> omega
theorem rd_hex (h l : Nat) (hh : h < 16) (hl : l < 16) (m : Mem) : rd (.ish .shl) [.int .i64 (h : Nat), .int .u64 4] m = some (.int .i64 (h * 16 : Nat)) ∧ rd (.ibt .or) [.int .i64 (h * 16 : Nat), .int .i64 (l : Nat)] m = some (.int .i64 (h * 16 + l : Nat)) := by
  have k1 : ∀ x : Fin 16, IntKind.i64.wrap ((x.val : Int) * 2 ^ (min (4 : Int).toNat IntKind.i64.bits)) = ((x.val * 16 : Nat) : Int) := by decide +kernel
  have k2 : ∀ x y : Fin 16, IntKind.i64.wrap (BitVec.ofInt IntKind.i64.bits ((x.val * 16 : Nat) : Int) ||| BitVec.ofInt IntKind.i64.bits (y.val : Int)).toNat = ((x.val * 16 + y.val : Nat) : Int) := by decide +kernel
  constructor
  · simp only [rd, rdp, RO.reads, j2]
    rw [if_neg (by decide)]
    have := k1 ⟨h, hh⟩
    simp only at this
    rw [this]
  · simp only [rd, rdp, RO.reads, i2, if_true]
    rw [k2 ⟨h, hh⟩ ⟨l, hl⟩]
theorem zb_at {l : List UInt8} {j : Nat} {c : UInt8} (i : Int) (hi : i = (j : Nat)) (h : l[j]? = some c) : (zb l)[i.toNat]? = some c := by
  subst hi
  have hlt := (List.getElem?_eq_some_iff.1 h).1
  have e : (zb l)[j]? = some (l[j]) := by
    rw [getElem?_pos (zb l) j (by rw [zb_size]; exact hlt)]; rfl
  rw [Int.toNat_natCast, e]
  rw [← h, List.getElem?_eq_getElem hlt]
theorem app1 {X : UInt8} {b : Nat} {w : Value} {bs : List UInt8} {K : Value → Mem → Prop} {l : Lk K} {l1 : Lk w} {l2 : Lk M} (hlen : bs.length ≤ 1000000) (H : Hq m0 M S (cellA b (.cells #[.int .u8 (X.toNat : Nat)] T_uint8 (0, 0)) :: byA T_uint8 w bs :: L))
    (hK : ∀ v M', Hq m0 M' S (byA T_uint8 v (bs ++ [X]) :: L) → K v M') : appQ Tryz.prog T_uint8 1 1 [.int .u8 0] w (.slice (some ⟨b, 0, none⟩) 1 1) M K l l1 l2 := by
  have h := H.hs.1
  have hb : M b = some (.cells [Value.int .u8 (X.toNat : Nat)].toArray T_uint8 (0, 0)) := by with_unfolding_all exact h
  clear h
  refine appQ1 H (k := 1) rfl (ldS_cell (l := [.int .u8 (X.toNat : Nat)]) hb (by simp)) rfl (by simp [Value.oneCell']) rfl (by omega) (by omega) fun w2 M f H => ?_
  have H := H.tail
  rw [show [Value.int IntKind.u8 (X.toNat : Nat)].take (1 * 1) = bys [X] from rfl] at H
  exact hK w2 M (by rw [← byA_app]; exact H)
set_option maxHeartbeats 1000000 in
theorem text_s (l : List UInt8) (hl : l.length ≤ 1000000) (m : Mem) : MC Tryz.prog n_shell_text [strV l] m fun v m' => v = strV (textL l) ∧ Fr m m' [] := by
  refine shell_text_go (by simp [Tryz.f33]) ?_
  have H := (Hq.refl m []).nilRow T_uint8 1
  simp (disch := omega) only [go_sem, undef]
  refine loopQ_intro (fun k E m' => ∃ (j : Nat) (w : Value) (bs : List UInt8), k = l.length + 1 - j ∧ 1 ≤ j ∧ bs.length < j ∧ j ≤ l.length + 1 ∧ bs ++ textGo (l.drop j) = textL l ∧ E = [(0, strV l), (3, w), (4, .int .i64 (j : Nat))] ∧ Hq m m' [] [byA T_uint8 w bs]) l.length rfl ⟨1, _, [], rfl, by omega, by simp, by omega, rfl, rfl, H⟩ ?_
  clear H
  rintro k E M1 ⟨j, w, bs, rfl, hj1, hbl, hj, ht, rfl, H⟩
  by_cases hlt : j < l.length
  · have hc : l[j]? = some l[j] := List.getElem?_eq_getElem hlt
    have hd : l.drop j = l[j] :: l.drop (j + 1) := List.drop_eq_getElem_cons hlt
    generalize l[j] = c at *
    by_cases h37 : c.toNat = 37
    · by_cases h2 : j + 2 < l.length
      · have hc1 : l[j + 1]? = some l[j + 1] := List.getElem?_eq_getElem (by omega)
        have hc2 : l[j + 2]? = some l[j + 2] := List.getElem?_eq_getElem (by omega)
        have hd1 : l.drop (j + 1) = l[j + 1] :: l.drop (j + 2) := List.drop_eq_getElem_cons (by omega)
        have hd2 : l.drop (j + 2) = l[j + 2] :: l.drop (j + 3) := List.drop_eq_getElem_cons (by omega)
        generalize l[j + 1] = d at *
        generalize l[j + 2] = e at *
        have hhd := hexV_lt d
        have hhe := hexV_lt e
        have ht2 : (bs ++ [UInt8.ofNat (hexV d * 16 + hexV e)]) ++ textGo (l.drop (j + 3)) = textL l := by
          rw [← ht, hd, hd1, hd2]
          simp only [textGo, h37, if_true, List.append_assoc, List.singleton_append]
        simp (disch := omega) only [go_sem, undef, dec_t (show ((j : Nat) : Int) < (l.length : Nat) by omega), rd_lenz_zb, rd_idxs_l hc, dec_t (show ((c.toNat : Nat) : Int) = 37 by omega), dec_t (show ((j : Nat) : Int) + 2 < (l.length : Nat) by omega), zb_at ((j : Nat) + 1 : Int) (by omega) hc1, zb_at ((j : Nat) + 2 : Int) (by omega) hc2]
        refine callQ H (ib_s hexB d _) fun M f H => ?_
        simp (disch := omega) only [go_sem, undef]
        refine callQ H (ib_s hexB e _) fun M f H => ?_
        simp (disch := omega) only [go_sem, undef, rd_mx, hex_max, (rd_hex (hexV d) (hexV e) hhd hhe M).1, (rd_hex (hexV d) (hexV e) hhd hhe M).2]
        rw [u8_wrap, Nat.mod_eq_of_lt (show hexV d * 16 + hexV e < 256 by omega), bv_of (hexV d * 16 + hexV e) (by omega)]
        refine newQ H fun b1 M f H => ?_
        simp (disch := omega) only [go_sem, undef]
        refine app1 (by omega) H fun w2 M H => ?_
        simp (disch := omega) only [go_sem, undef]
        exact handN_intro (l.length + 1 - (j + 3)) (by omega) ⟨j + 3, w2, _, rfl, by omega, by simp; omega, by omega, ht2, rfl, H⟩
      · have ht2 : (bs ++ [c]) ++ textGo (l.drop (j + 1)) = textL l := by
          rw [← ht, hd]
          have hlen : (l.drop (j + 1)).length < 2 := by rw [List.length_drop]; omega
          match hq : l.drop (j + 1), hlen with
          | [], _ => simp [textGo]
          | [x], _ => simp [textGo]
          | _ :: _ :: _, h => exact absurd h (by simp only [List.length_cons]; omega)
        simp (disch := omega) only [go_sem, undef, dec_t (show ((j : Nat) : Int) < (l.length : Nat) by omega), rd_lenz_zb, rd_idxs_l hc, dec_t (show ((c.toNat : Nat) : Int) = 37 by omega), dec_f (show ¬ ((j : Nat) : Int) + 2 < (l.length : Nat) by omega)]
        refine newQ H fun b1 M f H => ?_
        simp (disch := omega) only [go_sem, undef]
        refine app1 (by omega) H fun w2 M H => ?_
        simp (disch := omega) only [go_sem, undef]
        exact handN_intro (l.length + 1 - (j + 1)) (by omega) ⟨j + 1, w2, _, rfl, by omega, by simp; omega, by omega, ht2, rfl, H⟩
    · have ht2 : (bs ++ [c]) ++ textGo (l.drop (j + 1)) = textL l := by
        rw [← ht, hd, textGo_cons h37]
        simp
      simp (disch := omega) only [go_sem, undef, dec_t (show ((j : Nat) : Int) < (l.length : Nat) by omega), rd_lenz_zb, rd_idxs_l hc, dec_f (show ¬ ((c.toNat : Nat) : Int) = 37 by omega)]
      refine newQ H fun b1 M f H => ?_
      simp (disch := omega) only [go_sem, undef]
      refine app1 (by omega) H fun w2 M H => ?_
      simp (disch := omega) only [go_sem, undef]
      exact handN_intro (l.length + 1 - (j + 1)) (by omega) ⟨j + 1, w2, _, rfl, by omega, by simp; omega, by omega, ht2, rfl, H⟩
  · have hbs : bs = textL l := by
      rw [← ht, List.drop_eq_nil_of_le (by omega)]; simp [textGo]
    have hr : RdB M1 w (textL l) := by rw [← hbs]; exact byA_rd H.hs.1
    obtain ⟨a, c, rfl⟩ := hr.form
    simp (disch := omega) only [go_sem, undef, dec_f (show ¬ ((j : Nat) : Int) < (l.length : Nat) by omega), rd_lenz_zb, rd_b2s hr]
    exact ⟨rfl, H.fr⟩
end Go.Fw
