import Derived.Test.YtbbiiodadoeflaaGreatDoorRb
import Derived.Test.YtbbiiodadoeflaaGreatDoorRp
import Derived.Test.YtbbiiodadoeflaaGreatDoorWa
import Derived.Test.YtbbiiodadoeflaaGreatDoorWd
set_option linter.unusedVariables false
set_option linter.unusedSimpArgs false
namespace Go.Fw
open Go.Proofs
variable {m m0 M : Mem} {S : List Nat} {L : List As}
variable {rb : Nat} {fv : Value} {rs : List Row} {D : Dk}
theorem nuN_app (l r : Bs) : nuN (l ++ r) = r.foldl (fun acc c => acc.bind fun n => if 48 ≤ c.toNat ∧ c.toNat ≤ 57 then some (n * 10 + (c.toNat - 48)) else none) (nuN l) := by simp [nuN]
theorem nuN_snoc (l : Bs) (c : UInt8) : nuN (l ++ [c]) = (nuN l).bind fun n => if 48 ≤ c.toNat ∧ c.toNat ≤ 57 then some (n * 10 + (c.toNat - 48)) else none := by rw [nuN_app]; rfl
theorem nuN_dead (l r : Bs) (h : nuN l = none) : nuN (l ++ r) = none := by
  rw [nuN_app, h]
  induction r with
  | nil => rfl
  | cons x r ih => exact ih
theorem zb_ix {l : Bs} {i : Nat} {k : IntKind} (h : i < l.length) : rd .idxs [.string (zb l), .int k (i : Nat)] m = some (.int .u8 (l[i].toNat : Nat)) := by
  rw [rd_idxs _ _ _ (by omega), Int.toNat_natCast, zb_get, List.getElem?_eq_getElem h]; rfl
theorem zb_nil : (⟨#[]⟩ : ByteArray) = zb [] := rfl
theorem zb_ne {l : Bs} (h : l ≠ []) : ¬ zb l = zb [] := fun e => h (zb_inj.1 e)
def noV (s : Bs) (u : Value) : Prop := u = .tuple #[.int .i64 ((nuF s).getD 0 : Nat), .bool (nuF s).isSome]
set_option maxHeartbeats 8000000 in
theorem number_s (s : Bs) (hl : s.length ≤ 1000000) : MC Tryz.prog n_ref8_number [.string (zb s)] m fun u M => noV s u ∧ Fr m M [] := by
  have hs : (((zb s).size : Nat) : Int) = (s.length : Nat) := by rw [zb_size]
  unfold noV
  by_cases h0 : s = []
  · subst h0
    refine ref8_number_go (by simp [Tryz.f33]) ?_
    simp (disch := omega) only [go_sem, undef, zb_nil, rd_str_eql, decide_eq_true (rfl : zb [] = zb [])]
    exact ⟨rfl, Fr.refl _ _⟩
  by_cases h9 : 9 < s.length
  · have e : nuF s = none := if_pos (.inr (.inl h9))
    rw [e]
    refine ref8_number_go (by simp [Tryz.f33]) ?_
    simp (disch := omega) only [go_sem, undef, zb_nil, rd_str_eql, decide_eq_false (zb_ne h0), hs, dec_t (show ((s.length : Nat) : Int) > 9 by omega)]
    exact ⟨rfl, Fr.refl _ _⟩
  have hpos : 0 < s.length := List.length_pos_iff.2 h0
  have hix0 : rd .idxs [.string (zb s), .int .i64 0] m = some (.int .u8 (s[0].toNat : Nat)) := zb_ix (i := 0) hpos
  by_cases h48 : s[0].toNat = 48
  · have e : nuF s = none := if_pos (.inr (.inr (by rw [List.getElem?_eq_getElem hpos]; exact congrArg some (UInt8.toNat_inj.1 h48))))
    rw [e]
    refine ref8_number_go (by simp [Tryz.f33]) ?_
    simp (disch := omega) only [go_sem, undef, zb_nil, rd_str_eql, decide_eq_false (zb_ne h0), hs, dec_f (show ¬ ((s.length : Nat) : Int) > 9 by omega), hix0, dec_t (show ((s[0].toNat : Nat) : Int) = 48 by omega)]
    exact ⟨rfl, Fr.refl _ _⟩
  have e : nuF s = nuN s := if_neg (by
    rintro (h | h | h)
    · exact h0 h
    · exact h9 h
    · rw [List.getElem?_eq_getElem hpos] at h
      exact h48 (by rw [Option.some.inj h]; rfl))
  rw [e]
  clear e
  refine ref8_number_go (by simp [Tryz.f33]) ?_
  simp (disch := omega) only [go_sem, undef, zb_nil, rd_str_eql, decide_eq_false (zb_ne h0), hs, dec_f (show ¬ ((s.length : Nat) : Int) > 9 by omega), hix0, dec_f (show ¬ ((s[0].toNat : Nat) : Int) = 48 by omega)]
  refine loopQ_intro (fun k E m' => ∃ j n, j ≤ s.length ∧ k = s.length - j ∧ E = [(0, .string (zb s)), (4, .int .i64 (n : Nat)), (5, .int .i64 (j : Nat))] ∧ nuN (s.take j) = some n ∧ n < 10 ^ j ∧ m' = m) s.length rfl ⟨0, 0, by omega, by omega, rfl, by rw [List.take_zero]; rfl, by simp, rfl⟩ ?_
  clear hix0
  rintro k E M1 ⟨j, n, hj, rfl, rfl, hn, hnb, rfl⟩
  have hn9 : n < 1000000000 := Nat.lt_of_lt_of_le hnb (Nat.le_trans (Nat.pow_le_pow_right (by omega) (show j ≤ 9 by omega)) (by decide))
  simp (disch := omega) only [go_sem, undef, hs]
  refine condB_dec (fun hlt => ?_) (fun hlt => ?_)
  · have hlt : j < s.length := by omega
    have hix := zb_ix (m := M1) (k := .i64) hlt
    have hsn : nuN (s.take (j + 1)) = if 48 ≤ s[j].toNat ∧ s[j].toNat ≤ 57 then some (n * 10 + (s[j].toNat - 48)) else none := by
      rw [List.take_add_one, List.getElem?_eq_getElem hlt, Option.toList_some, nuN_snoc, hn]; rfl
    have hdead : nuN (s.take (j + 1)) = none → nuN s = none := fun h => by
      have := nuN_dead (s.take (j + 1)) (s.drop (j + 1)) h
      rwa [List.take_append_drop] at this
    generalize s[j].toNat = c at *
    by_cases h1 : c < 48
    · rw [if_neg (by omega)] at hsn
      rw [hdead hsn]
      simp (disch := omega) only [go_sem, undef, hix, dec_t (show ((c : Nat) : Int) < 48 by omega)]
      exact ⟨rfl, Fr.refl _ _⟩
    by_cases h2 : 57 < c
    · rw [if_neg (by omega)] at hsn
      rw [hdead hsn]
      simp (disch := omega) only [go_sem, undef, hix, dec_f (show ¬ ((c : Nat) : Int) < 48 by omega), dec_t (show ((c : Nat) : Int) > 57 by omega)]
      exact ⟨rfl, Fr.refl _ _⟩
    rw [if_pos (by omega)] at hsn
    have hp10 : 10 ^ (j + 1) = 10 ^ j * 10 := Nat.pow_succ ..
    have hv : ((n : Nat) : Int) * 10 + (((c : Nat) : Int) - 48) = ((n * 10 + (c - 48) : Nat) : Int) := by omega
    have hw8 : IntKind.u8.wrap (((c : Nat) : Int) - 48) = ((c - 48 : Nat) : Int) := by rw [IntKind.wrap_u8]; omega
    simp (disch := omega) only [go_sem, undef, hix, dec_f (show ¬ ((c : Nat) : Int) < 48 by omega), dec_f (show ¬ ((c : Nat) : Int) > 57 by omega), hw8, wrap_i64]
    refine handN_intro (s.length - (j + 1)) (by omega) ⟨j + 1, n * 10 + (c - 48), by omega, rfl, ?_, hsn, by omega, rfl⟩
    rfl
  · have e : j = s.length := by omega
    subst e
    rw [List.take_length] at hn
    simp (disch := omega) only [go_sem, undef]
    rw [hn]
    exact ⟨rfl, Fr.refl _ _⟩
theorem tw_take {r : Bs} {j : Nat} (h1 : ∀ c ∈ r.take j, c ≠ 46) (h2 : r[j]? = none ∨ r[j]? = some 46) : r.takeWhile (· != 46) = r.take j := by
  have e : r = r.take j ++ r.drop j := (List.take_append_drop j r).symm
  rw [e, List.takeWhile_append_of_pos (by simpa using h1), ← e]
  rcases h2 with h2 | h2
  · have : r.drop j = [] := List.drop_eq_nil_of_le (List.getElem?_eq_none_iff.1 h2)
    rw [this]; simp
  · have hj := (List.getElem?_eq_some_iff.1 h2).1
    rw [List.drop_eq_getElem_cons hj, (List.getElem?_eq_some_iff.1 h2).2]; simp
set_option maxHeartbeats 8000000 in
theorem named_s (s : Bs) (hl : s.length ≤ 1000000) : MC Tryz.prog n_ref8_named [.string (zb s)] m fun u M => (∃ g k : Nat, u = .tuple #[.int .i64 (g : Nat), .int .i64 (k : Nat), .bool (namF s).isSome] ∧ ∀ p, namF s = some p → g = p.1 ∧ k = p.2) ∧ Fr m M [] := by
  have hs : (((zb s).size : Nat) : Int) = (s.length : Nat) := by rw [zb_size]
  have hlg : (⟨#[108, 111, 103, 46]⟩ : ByteArray) = zb [108, 111, 103, 46] := rfl
  by_cases h7 : s.length < 7
  · have e : namF s = none := if_pos (.inl h7)
    refine ref8_named_go (by simp [Tryz.f33]) ?_
    simp (disch := omega) only [go_sem, undef, hs, dec_t (show ((s.length : Nat) : Int) < 7 by omega)]
    rw [e]
    exact ⟨⟨0, 0, rfl, by intro p hp; cases hp⟩, Fr.refl _ _⟩
  have hcut : cutZ (zb s) 0 4 = some (.string (zb (s.take 4))) := by have := zb_cut s 0 4 (by omega) (by omega); rwa [List.drop_zero] at this
  by_cases h4 : s.take 4 = [108, 111, 103, 46]
  rotate_left
  · have e : namF s = none := if_pos (.inr h4)
    refine ref8_named_go (by simp [Tryz.f33]) ?_
    simp (disch := omega) only [go_sem, undef, hs, dec_f (show ¬ ((s.length : Nat) : Int) < 7 by omega), rd_slcs01, hcut, hlg, rd_str_neq, dec_f (show ¬ zb (s.take 4) = zb [108, 111, 103, 46] from fun h => h4 (zb_inj.1 h)), Bool.not_false]
    rw [e]
    exact ⟨⟨0, 0, rfl, by intro p hp; cases hp⟩, Fr.refl _ _⟩
  have hn : namF s = if ((s.drop 4).takeWhile (· != 46)).length = (s.drop 4).length then none else match nuF ((s.drop 4).takeWhile (· != 46)), nuF ((s.drop 4).drop (((s.drop 4).takeWhile (· != 46)).length + 1)) with
      | some g, some k => some (g, k)
      | _, _ => none := if_neg (by rintro (h | h); exact h7 h; exact h h4)
  have hdl : (s.drop 4).length = s.length - 4 := List.length_drop ..
  refine ref8_named_go (by simp [Tryz.f33]) ?_
  simp (disch := omega) only [go_sem, undef, hs, dec_f (show ¬ ((s.length : Nat) : Int) < 7 by omega), rd_slcs01, hcut, hlg, rd_str_neq, dec_t (show zb (s.take 4) = zb [108, 111, 103, 46] by rw [h4]), Bool.not_true]
  refine loopQ_intro (fun k E m' => ∃ j, j ≤ s.length - 4 ∧ k = s.length - 4 - j ∧ E = [(0, .string (zb s)), (5, .int .i64 ((4 + j : Nat) : Int))] ∧ (∀ c ∈ (s.drop 4).take j, c ≠ 46) ∧ m' = m) (s.length - 4) rfl ⟨0, by omega, by omega, rfl, by simp, rfl⟩ ?_
  rintro k E M1 ⟨j, hj, rfl, rfl, hne, rfl⟩
  have H := Hq.refl M1 []
  by_cases hlt : j < s.length - 4
  · have hix := zb_ix (m := M1) (k := .i64) (l := s) (i := 4 + j) (by omega)
    have hd : (s.drop 4)[j]? = some s[4 + j] := by rw [List.getElem?_drop, List.getElem?_eq_getElem (by omega)]
    by_cases hc : s[4 + j] = 46
    · rw [hc] at hix hd
      have hix : rd .idxs [.string (zb s), .int .i64 ((4 + j : Nat) : Int)] M1 = some (.int .u8 46) := hix
      have htw := tw_take hne (.inr hd)
      have htl : ((s.drop 4).take j).length = j := by rw [List.length_take]; omega
      rw [htw, htl, if_neg (by omega)] at hn
      have hc1 : cutZ (zb s) 4 ((4 + j : Nat) : Int) = some (.string (zb ((s.drop 4).take j))) := by
        have := zb_cut s 4 (4 + j) (by omega) (by omega)
        rw [List.drop_take, Nat.add_sub_cancel_left] at this
        exact this
      have hc2 : cutZ (zb s) (((4 + j : Nat) : Int) + 1) (zb s).size = some (.string (zb ((s.drop 4).drop (j + 1)))) := by
        have := zb_cut s (4 + j + 1) s.length (by omega) (by omega)
        rw [List.take_length] at this
        rw [List.drop_drop, show 4 + (j + 1) = 4 + j + 1 from by omega]
        exact this
      simp (disch := omega) only [go_sem, undef, hs, dec_t (show ((4 + j : Nat) : Int) < (s.length : Nat) by omega), hix, dec_f (show ¬ ((4 + j : Nat) : Int) = (s.length : Nat) by omega), rd_slcs11, hc1]
      refine callR H (number_s _ (by rw [htl]; omega)) fun u M hR f H => ?_
      unfold noV at hR
      subst hR
      simp (disch := omega) only [go_sem, undef, rd_slcs10, hc2]
      refine callR H (number_s _ (by rw [List.length_drop]; omega)) fun u M hR f H => ?_
      unfold noV at hR
      subst hR
      generalize nuF ((s.drop 4).take j) = x at *
      generalize nuF ((s.drop 4).drop (j + 1)) = y at *
      have no : (none : Option Nat).isSome = false := rfl
      have so : ∀ z : Nat, (some z).isSome = true := fun _ => rfl
      cases x with
      | none =>
        simp (disch := omega) only [go_sem, undef, no]
        rw [hn]
        exact ⟨⟨_, _, rfl, by intro p hp; cases hp⟩, H.fr⟩
      | some x =>
        cases y with
        | none =>
          simp (disch := omega) only [go_sem, undef, no, so]
          rw [hn]
          exact ⟨⟨_, _, rfl, by intro p hp; cases hp⟩, H.fr⟩
        | some y =>
          simp (disch := omega) only [go_sem, undef, so]
          rw [hn]
          exact ⟨⟨_, _, rfl, by intro p hp; cases hp; exact ⟨rfl, rfl⟩⟩, H.fr⟩
    · have hcn : ¬ ((s[4 + j].toNat : Nat) : Int) = 46 := fun h => hc (UInt8.toNat_inj.1 (show s[4 + j].toNat = (46 : UInt8).toNat from by
        have : s[4 + j].toNat = 46 := by omega
        rw [this]; rfl))
      simp (disch := omega) only [go_sem, undef, hs, dec_t (show ((4 + j : Nat) : Int) < (s.length : Nat) by omega), hix, dec_t (show ((s[4 + j].toNat : Nat) : Int) ≠ 46 from hcn)]
      refine handN_intro (s.length - 4 - (j + 1)) (by omega) ⟨j + 1, by omega, rfl, rfl, ?_, rfl⟩
      rw [List.take_add_one, hd]
      intro c hm
      rcases List.mem_append.1 hm with hm | hm
      · exact hne c hm
      · rw [Option.toList_some, List.mem_singleton] at hm; subst hm; exact hc
  · have e : j = s.length - 4 := by omega
    subst e
    have htw := tw_take hne (.inl (List.getElem?_eq_none (by omega)))
    rw [htw, if_pos (by rw [List.length_take]; omega)] at hn
    have e4 : ((4 + (s.length - 4) : Nat) : Int) = (s.length : Nat) := by omega
    simp (disch := omega) only [go_sem, undef, hs, dec_f (show ¬ ((4 + (s.length - 4) : Nat) : Int) < (s.length : Nat) by omega), dec_t e4]
    rw [hn]
    exact ⟨⟨0, 0, rfl, by intro p hp; cases hp⟩, Fr.refl _ _⟩
theorem dg_small {n : Nat} (h : n < 10) : dg n = [UInt8.ofNat (48 + n)] := if_pos h
theorem dg_big {n : Nat} (h : ¬ n < 10) : dg n = [UInt8.ofNat (48 + n / 10), UInt8.ofNat (48 + n % 10)] := if_neg h
set_option maxHeartbeats 4000000 in
theorem digits_s (n : Nat) (hn : n < 100) : MC Tryz.prog n_ref8_digits [.int .i64 (n : Nat)] m fun u M => u = .string (zb (dg n)) ∧ Fr m M [] := by
  refine ref8_digits_go (by simp [Tryz.f33]) ?_
  simp (disch := omega) only [go_sem, undef, zb_nil]
  refine loopQ_intro (fun k E m' => ∃ (x : Nat) (t : Bs), ((k = 2 ∧ x = n ∧ t = []) ∨ (k = 1 ∧ 0 < x ∧ x < 10 ∧ t.length = 1 ∧ dg n = UInt8.ofNat (48 + x) :: t) ∨ (k = 0 ∧ x = 0 ∧ t = dg n)) ∧ E = [(0, .int .i64 (x : Nat)), (3, .string (zb t))] ∧ Fr m m' []) 2 rfl ⟨n, [], .inl ⟨rfl, rfl, rfl⟩, rfl, Fr.refl _ _⟩ ?_
  rintro k E M1 ⟨x, t, hE, rfl, f⟩
  have H : Hq m M1 [] [] := (Hq.refl m []).keep f
  have step : ∀ (k' : Nat), k' < k → x < 100 → t.length ≤ 1 → (0 < x ∨ t = []) → ((k' = 1 ∧ 0 < x / 10 ∧ x / 10 < 10 ∧ t = [] ∧ dg n = [UInt8.ofNat (48 + x / 10), UInt8.ofNat (48 + x % 10)]) ∨ (k' = 0 ∧ x / 10 = 0 ∧ UInt8.ofNat (48 + x % 10) :: t = dg n)) → True := fun _ _ _ _ _ _ => trivial
  clear step
  have hrem : ((x : Nat) : Int).tmod 10 = ((x % 10 : Nat) : Int) := rfl
  have hquo : ((x : Nat) : Int).tdiv 10 = ((x / 10 : Nat) : Int) := rfl
  have hw : IntKind.u8.wrap (48 + ((x % 10 : Nat) : Int)) = ((UInt8.ofNat (48 + x % 10)).toNat : Nat) := by
    rw [show (48 : Int) + ((x % 10 : Nat) : Int) = ((48 + x % 10 : Nat) : Int) from by omega, u8_wrap, UInt8.toNat_ofNat']
  have ha : t.length ≤ 2 := by
    have := dg_len n
    rcases hE with ⟨_, _, h⟩ | ⟨_, _, _, h, _⟩ | ⟨_, _, h⟩ <;> rw [h] <;> simp <;> omega
  rcases hE with ⟨rfl, rfl, rfl⟩ | ⟨rfl, h1, h2, h3, h4⟩ | ⟨rfl, rfl, rfl⟩
  · by_cases h0 : x = 0
    · subst h0
      simp (disch := omega) only [go_sem, undef, dec_f (show ¬ ((0 : Nat) : Int) > 0 by simp), zb_nil, rd_str_eql, decide_eq_true (rfl : zb [] = zb []), rd_rem, rd_quo, hrem, hquo, hw]
      refine newQ H fun b M f H => ?_
      have hb := rd_b2s (a := some ⟨b, 0, none⟩) (c := 1) (l := [UInt8.ofNat (48 + 0 % 10)]) (byte_rd (x := UInt8.ofNat (48 + 0 % 10)) H.cs.1)
      have hb : rd .b2s [Value.slice (some ⟨b, 0, none⟩) 1 1] M = some (.string (zb [UInt8.ofNat (48 + 0 % 10)])) := hb
      simp (disch := omega) only [go_sem, undef, hb, rd_zadd [UInt8.ofNat (48 + 0 % 10)] [] (by simp), rd_quo, hquo]
      exact handN_intro 0 (by omega) ⟨0, dg 0, .inr (.inr ⟨rfl, rfl, rfl⟩), rfl, H.fr⟩
    · simp (disch := omega) only [go_sem, undef, dec_t (show ((x : Nat) : Int) > 0 by omega), rd_rem, rd_quo, hrem, hquo, hw]
      refine newQ H fun b M f H => ?_
      have hb := rd_b2s (a := some ⟨b, 0, none⟩) (c := 1) (l := [UInt8.ofNat (48 + x % 10)]) (byte_rd (x := UInt8.ofNat (48 + x % 10)) H.cs.1)
      have hb : rd .b2s [Value.slice (some ⟨b, 0, none⟩) 1 1] M = some (.string (zb [UInt8.ofNat (48 + x % 10)])) := hb
      simp (disch := omega) only [go_sem, undef, hb, rd_zadd [UInt8.ofNat (48 + x % 10)] [] (by simp), rd_quo, hquo]
      by_cases h10 : x < 10
      · exact handN_intro 0 (by omega) ⟨x / 10, [UInt8.ofNat (48 + x % 10)], .inr (.inr ⟨rfl, by omega, by rw [dg_small h10, Nat.mod_eq_of_lt h10]⟩), rfl, H.fr⟩
      · exact handN_intro 1 (by omega) ⟨x / 10, [UInt8.ofNat (48 + x % 10)], .inr (.inl ⟨rfl, by omega, by omega, rfl, by rw [dg_big h10]⟩), rfl, H.fr⟩
  · simp (disch := omega) only [go_sem, undef, dec_t (show ((x : Nat) : Int) > 0 by omega), rd_rem, rd_quo, hrem, hquo, hw]
    refine newQ H fun b M f H => ?_
    have hb := rd_b2s (a := some ⟨b, 0, none⟩) (c := 1) (l := [UInt8.ofNat (48 + x % 10)]) (byte_rd (x := UInt8.ofNat (48 + x % 10)) H.cs.1)
    have hb : rd .b2s [Value.slice (some ⟨b, 0, none⟩) 1 1] M = some (.string (zb [UInt8.ofNat (48 + x % 10)])) := hb
    simp (disch := omega) only [go_sem, undef, hb, rd_zadd [UInt8.ofNat (48 + x % 10)] t (by simp; omega), rd_quo, hquo]
    exact handN_intro 0 (by omega) ⟨x / 10, UInt8.ofNat (48 + x % 10) :: t, .inr (.inr ⟨rfl, by omega, by rw [h4, Nat.mod_eq_of_lt h2]⟩), rfl, H.fr⟩
  · have hne : dg n ≠ [] := by have := (dg_len n).1; intro e; rw [e] at this; simp at this
    simp (disch := omega) only [go_sem, undef, dec_f (show ¬ ((0 : Nat) : Int) > 0 by simp), zb_nil, rd_str_eql, decide_eq_false (zb_ne hne)]
    exact ⟨rfl, f⟩
theorem segment_s (g k : Nat) (hg : g < 100) (hk : k < 100) : MC Tryz.prog n_ref8_Segment [.int .i64 (g : Nat), .int .i64 (k : Nat)] m fun u M => u = .string (zb (nmB g k)) ∧ Fr m M [] := by
  refine ref8_Segment_go (by simp [Tryz.f33]) ?_
  have H := Hq.refl m []
  have h1 := dg_len g
  have h2 := dg_len k
  simp (disch := omega) only [go_sem, undef]
  refine callQ H (digits_s g hg) fun M f H => ?_
  simp (disch := omega) only [go_sem, undef, log_eq, dot_eq, rd_zadd [108, 111, 103, 46] (dg g) (by simp; omega), rd_zadd (108 :: 111 :: 103 :: 46 :: dg g) [46] (by simp; omega)]
  refine callQ H (digits_s k hk) fun M f H => ?_
  simp (disch := omega) only [go_sem, undef, rd_zadd (108 :: 111 :: 103 :: 46 :: (dg g ++ [46])) (dg k) (by simp; omega)]
  exact ⟨by simp [nmB], H.fr⟩
end Go.Fw
namespace Go.Fw
open Go.Proofs
variable {t rb : Nat} {a : Option Addr} {c : Nat} {b : List UInt8} {s : RS} {m m0 : Mem} {S : List Nat} {L : List As}
/-! the document's reader and numbers -/
theorem rd_cpl_i64 (x : Int) (h : -9223372036854775808 ≤ x ∧ x ≤ 9223372036854775807) : rd .cpl [.int .i64 x] m = some (.int .i64 (-x - 1)) := by
  show some (Value.int .i64 (IntKind.i64.wrap _)) = _
  congr 2
  have : (BitVec.ofInt IntKind.i64.bits (if IntKind.i64.signed = true then -1 else IntKind.i64.max) ^^^ BitVec.ofInt IntKind.i64.bits x).toNat = 18446744073709551615 - (x % 18446744073709551616).toNat := by
    show (BitVec.ofInt 64 (-1) ^^^ BitVec.ofInt 64 x).toNat = _
    have e : BitVec.ofInt 64 (-1) = BitVec.allOnes 64 := by decide
    rw [e, BitVec.allOnes_xor, BitVec.toNat_not, BitVec.toNat_ofInt]
    simp
  rw [this, IntKind.wrap_i64]; omega
theorem ref1_Zag_s (u : Nat) (hu : u < 2 ^ 64) (m : Mem) : MC Tryz.prog n_ref1_Zag [.int .u64 (u : Int)] m fun v M => v = .int .i64 (zag u) ∧ Fr m M [] := by
  refine ref1_Zag_go (by simp [Tryz.f33]) ?_
  have h2 : u % 2 = 0 ∨ u % 2 = 1 := by omega
  have h3 : ((u / 2 ^ 1 : Nat) : Int) ≤ 9223372036854775807 := by omega
  have h4 : (0 : Int) ≤ ((u / 2 ^ 1 : Nat) : Int) := by omega
  rcases h2 with h2 | h2
  · simp (disch := omega) only [go_sem, undef, rd_u64_and1 u hu, h2, Int.natCast_zero, show decide ((0 : Int) = 1) = false from rfl, rd_u64_shr u 1 1 rfl (by omega)]
    exact ⟨by simp [zag, h2], Fr.refl _ _⟩
  · simp (disch := omega) only [go_sem, undef, rd_u64_and1 u hu, h2, Int.natCast_one, rd_u64_shr u 1 1 rfl (by omega), rd_cpl_i64]
    exact ⟨by simp [zag, h2], Fr.refl _ _⟩
theorem ref1_fail_s (h : (rdrA t rb a c b s).p m) (e : Int) (h0 : s.wr = 0) : MC Tryz.prog n_ref1_Reader_fail [lpp rb, .int .i64 e] m fun v M => (v = .tuple #[] ∧ (rdrA t rb a c b ⟨s.pos, e⟩).p M) ∧ Fr m M [rb] := by
  refine ref1_Reader_fail_go (by simp [Tryz.f33]) ?_
  have H := Hq.one h
  simp (disch := omega) only [go_sem, undef, H.cs, h0]
  have hp := rdr_pos h
  refine wr_rdr H ⟨s.pos, e⟩ rfl hp fun M f H => ?_
  simp (disch := omega) only [go_sem, undef]
  exact ⟨⟨rfl, H.hs.1⟩, H.fr⟩
theorem ref1_Num_s (h : (rdrA t rb a c b s).p m) : MC Tryz.prog n_ref1_Reader_Num [lpp rb] m fun v M => (v = .int .i64 (s.num b).1 ∧ (rdrA t rb a c b (s.num b).2).p M) ∧ Fr m M [rb] := by
  refine ref1_Reader_Num_go (by simp [Tryz.f33]) ?_
  have H := Hq.one h
  simp (disch := omega) only [go_sem, undef, H.cs]
  refine condB_dec (fun h0 => ?_) (fun h0 => ?_)
  rotate_left
  · rw [RS.num_bad h0]
    simp (disch := omega) only [go_sem, undef]
    exact ⟨⟨rfl, H.hs.1⟩, H.fr⟩
  · have hnum : s.num b = numE s (numR (b.drop s.pos) 0 0) := by simp [RS.num, h0]
    rw [hnum]
    simp (disch := omega) only [go_sem, undef, H.cs]
    have hp := rdr_pos h
    have hB := rdr_len h
    refine loopQ_intro (fun n E m' => ∃ i u, n = b.length - (s.pos + i) ∧ E = [(0, lpp rb), (3, .int .u64 (u : Nat)), (4, .int .i64 (i : Nat))] ∧ i ≤ 9 ∧ s.pos + i ≤ b.length ∧ u < 2 ^ (7 * i) ∧ numR (b.drop s.pos) 0 0 = numR (b.drop (s.pos + i)) i u ∧
      Hq m m' [rb] [rdrA t rb a c b s]) (b.length - s.pos) rfl ⟨0, 0, by omega, rfl, by omega, by omega, by decide, rfl, H⟩ ?_
    clear H h
    rintro n E m' ⟨i, u, rfl, rfl, hi, hpi, hu, hr, H⟩
    simp (disch := omega) only [go_sem, undef, H.cs]
    refine condB_dec (fun h1 => ?_) (fun h1 => ?_)
    · simp (disch := omega) only [go_sem, undef]
      refine tS0 H (fun h => ref1_fail_s h 3 h0) fun M f H => ?_
      simp (disch := omega) only [go_sem, undef]
      have : b.drop (s.pos + i) = [] := List.drop_eq_nil_iff.2 (by omega)
      rw [hr, this]
      exact ⟨⟨rfl, H.hs.1⟩, H.fr⟩
    · have h2 : s.pos + i < b.length := by omega
      refine RdS.elK (H.at 0 rfl).2.1 h2 (by decide) fun b1 o1 x hx hix hE => ?_
      rw [drop_cell hx] at hr
      simp only [numR] at hr
      have hxl := x.toNat_lt
      have hpw : i = 9 → (2 : Nat) ^ (7 * i) = 9223372036854775808 := by rintro rfl; decide
      have hpw8 : i ≤ 8 → (2 : Nat) ^ (7 * i) ≤ 72057594037927936 := fun h => Nat.le_trans (Nat.pow_le_pow_right (by omega) (show 7 * i ≤ 56 by omega)) (by decide)
      have hps : (2 : Nat) ^ (7 * (i + 1)) = 128 * 2 ^ (7 * i) := by rw [show 7 * (i + 1) = 7 + 7 * i from by omega, Nat.pow_add]
      generalize hP : (2 : Nat) ^ (7 * i) = P at *
      have hmul : x.toNat % 128 * P ≤ 127 * P := Nat.mul_le_mul_right P (by omega)
      have hmul1 : x.toNat ≤ 1 → x.toNat % 128 * P ≤ 1 * P := fun h => Nat.mul_le_mul_right P (by omega)
      have hix2 : ∀ (kd : IntKind) (M : Mem), rd (.ixs 1) [.slice a b.length c, .int kd ((s.pos : Int) + (i : Int))] M = some (.pointer (some ⟨b1, o1, none⟩)) := hix
      simp (disch := omega) only [go_sem, undef, H.cs, hix2, hE.ld0]
      repeat' (first
        | ((with_reducible refine newQ H fun _ _ f H2 => ?_); clear f; clear H; have H := H2; clear H2; simp (disch := omega) only [go_sem, undef, H.cs, *])
        | ((with_reducible refine wrQ0 H fun _ f H2 => ?_); clear f; clear H; have H := H2; clear H2; simp (disch := omega) only [go_sem, undef, H.cs, *])
        | ((with_reducible refine wrQ1 H fun _ f H2 => ?_); clear f; clear H; have H := H2; clear H2; simp (disch := omega) only [go_sem, undef, H.cs, *])
        | ((with_reducible refine wrQ2 H fun _ f H2 => ?_); clear f; clear H; have H := H2; clear H2; simp (disch := omega) only [go_sem, undef, H.cs, *])
        | ((with_reducible refine wrQ3 H fun _ f H2 => ?_); clear f; clear H; have H := H2; clear H2; simp (disch := omega) only [go_sem, undef, H.cs, *])
        | ((with_reducible refine wrQ4 H fun _ f H2 => ?_); clear f; clear H; have H := H2; clear H2; simp (disch := omega) only [go_sem, undef, H.cs, *])
        | ((with_reducible refine wrQ5 H fun _ f H2 => ?_); clear f; clear H; have H := H2; clear H2; simp (disch := omega) only [go_sem, undef, H.cs, *])
        | ((with_reducible refine stwQ0 H ?hl ?h1 fun _ f H2 => ?_); (case hl => rfl); (case h1 => rfl); clear f; clear H; have H := H2; clear H2; simp (disch := omega) only [go_sem, undef, H.cs, *])
        | ((with_reducible refine stwQ1 H ?hl ?h1 fun _ f H2 => ?_); (case hl => rfl); (case h1 => rfl); clear f; clear H; have H := H2; clear H2; simp (disch := omega) only [go_sem, undef, H.cs, *])
        | ((with_reducible refine stwQ2 H ?hl ?h1 fun _ f H2 => ?_); (case hl => rfl); (case h1 => rfl); clear f; clear H; have H := H2; clear H2; simp (disch := omega) only [go_sem, undef, H.cs, *])
        | ((with_reducible refine stwQ3 H ?hl ?h1 fun _ f H2 => ?_); (case hl => rfl); (case h1 => rfl); clear f; clear H; have H := H2; clear H2; simp (disch := omega) only [go_sem, undef, H.cs, *])
        | ((with_reducible refine stwQ4 H ?hl ?h1 fun _ f H2 => ?_); (case hl => rfl); (case h1 => rfl); clear f; clear H; have H := H2; clear H2; simp (disch := omega) only [go_sem, undef, H.cs, *])
        | ((with_reducible refine stwQ5 H ?hl ?h1 fun _ f H2 => ?_); (case hl => rfl); (case h1 => rfl); clear f; clear H; have H := H2; clear H2; simp (disch := omega) only [go_sem, undef, H.cs, *])
        | ((with_reducible refine stQ0 H ?hl ?h1 fun _ f H2 => ?_); (case hl => exact Nat.le_of_ble_eq_true rfl); (case h1 => rfl); clear f; (simp only [go_sem] at H2); clear H; have H := H2; clear H2; simp (disch := omega) only [go_sem, undef, H.cs, *])
        | ((with_reducible refine stQ1 H ?hl ?h1 fun _ f H2 => ?_); (case hl => exact Nat.le_of_ble_eq_true rfl); (case h1 => rfl); clear f; (simp only [go_sem] at H2); clear H; have H := H2; clear H2; simp (disch := omega) only [go_sem, undef, H.cs, *])
        | ((with_reducible refine stQ2 H ?hl ?h1 fun _ f H2 => ?_); (case hl => exact Nat.le_of_ble_eq_true rfl); (case h1 => rfl); clear f; (simp only [go_sem] at H2); clear H; have H := H2; clear H2; simp (disch := omega) only [go_sem, undef, H.cs, *])
        | ((with_reducible refine stQ3 H ?hl ?h1 fun _ f H2 => ?_); (case hl => exact Nat.le_of_ble_eq_true rfl); (case h1 => rfl); clear f; (simp only [go_sem] at H2); clear H; have H := H2; clear H2; simp (disch := omega) only [go_sem, undef, H.cs, *])
        | ((with_reducible refine gQ_split (fun hq => ?_) (fun hq => ?_)) <;> (try simp only [Bool.not_true, Bool.not_false] at hq) <;> simp (disch := omega) only [go_sem, undef, H.cs, *])
        | ((with_reducible refine condB_split (fun hq => ?_) (fun hq => ?_)) <;> simp (disch := omega) only [go_sem, undef, H.cs, *]))
      all_goals (simp only [decide_eq_true_eq, decide_eq_false_iff_not] at *)
      all_goals first
        | (exfalso; omega)
        | (refine tS0 H (fun h => ref1_fail_s h 4 h0) fun M f H => ?_
           rw [hr, if_pos (by omega)]
           simp (disch := omega) only [go_sem, undef]
           exact ⟨⟨rfl, H.hs.1⟩, H.fr⟩)
        | (have hbad : ¬ ((0 < i ∧ x.toNat = 0) ∨ (i = 9 ∧ 1 < x.toNat)) := by omega
           rw [if_neg hbad] at hr
           by_cases h3 : x.toNat < 128
           · rw [if_pos (by omega)] at hr
             simp (disch := omega) only [go_sem, undef, H.cs, rd_u8_and x.toNat hxl, u64_in, rd_u64_shl' (x.toNat % 128) .i64 (7 * i) (7 * i) (by omega) (by omega) (by rw [hP]; omega), hP, rd_u64_or (7 * i) u (x.toNat % 128 * P) (by omega) (by rw [hP]; exact Nat.mul_mod_left _ _) (by omega)]
             refine wr_rdr H ⟨s.pos + i + 1, s.wr⟩ rfl (by simp only; omega) fun M f H => ?_
             simp (disch := omega) only [go_sem, undef]
             refine callQ H (ref1_Zag_s _ (by omega) M) fun M f H => ?_
             simp (disch := omega) only [go_sem, undef]
             rw [hr]
             have e1 : x.toNat % 128 = x.toNat := by omega
             refine ⟨⟨by simp only [numE, e1], ?_⟩, H.fr⟩
             simp only [numE]
             exact H.hs.1
           · rw [if_neg (by omega)] at hr
             first
               | (exfalso; omega)
               | (simp (disch := omega) only [go_sem, undef, H.cs, rd_u8_and x.toNat hxl, u64_in, rd_u64_shl' (x.toNat % 128) .i64 (7 * i) (7 * i) (by omega) (by omega) (by rw [hP]; omega), hP, rd_u64_or (7 * i) u (x.toNat % 128 * P) (by omega) (by rw [hP]; exact Nat.mul_mod_left _ _) (by omega)]
                  exact handN_intro (b.length - (s.pos + (i + 1))) (by omega) ⟨i + 1, u + x.toNat % 128 * P, rfl, rfl, by omega, by omega, by omega, hr, H⟩))
theorem ref1_End_s (h : (rdrA t rb a c b s).p m) : MC Tryz.prog n_ref1_Reader_End [lpp rb] m fun v M => (v = .int .i64 (s.fin b).wr ∧ (rdrA t rb a c b (s.fin b)).p M) ∧ Fr m M [rb] := by
  refine ref1_Reader_End_go (by simp [Tryz.f33]) ?_
  have H := Hq.one h
  have hp := rdr_pos h
  by_cases h1 : s.wr = 0 ∧ s.pos < b.length
  · rw [show s.fin b = ⟨s.pos, 5⟩ from if_pos h1]
    obtain ⟨h1, h2⟩ := h1
    simp (disch := omega) only [go_sem, undef, H.cs, h1, dec_t]
    refine tS0 H (fun h => ref1_fail_s h 5 h1) fun M f H => ?_
    simp (disch := omega) only [go_sem, undef, H.cs]
    exact ⟨⟨rfl, H.hs.1⟩, H.fr⟩
  · rw [show s.fin b = s from if_neg h1]
    simp (disch := omega) only [go_sem, undef, H.cs]
    repeat' (first
      | ((with_reducible refine newQ H fun _ _ f H2 => ?_); clear f; clear H; have H := H2; clear H2; simp (disch := omega) only [go_sem, undef, H.cs, *])
      | ((with_reducible refine wrQ0 H fun _ f H2 => ?_); clear f; clear H; have H := H2; clear H2; simp (disch := omega) only [go_sem, undef, H.cs, *])
      | ((with_reducible refine wrQ1 H fun _ f H2 => ?_); clear f; clear H; have H := H2; clear H2; simp (disch := omega) only [go_sem, undef, H.cs, *])
      | ((with_reducible refine wrQ2 H fun _ f H2 => ?_); clear f; clear H; have H := H2; clear H2; simp (disch := omega) only [go_sem, undef, H.cs, *])
      | ((with_reducible refine wrQ3 H fun _ f H2 => ?_); clear f; clear H; have H := H2; clear H2; simp (disch := omega) only [go_sem, undef, H.cs, *])
      | ((with_reducible refine wrQ4 H fun _ f H2 => ?_); clear f; clear H; have H := H2; clear H2; simp (disch := omega) only [go_sem, undef, H.cs, *])
      | ((with_reducible refine wrQ5 H fun _ f H2 => ?_); clear f; clear H; have H := H2; clear H2; simp (disch := omega) only [go_sem, undef, H.cs, *])
      | ((with_reducible refine stwQ0 H ?hl ?h1 fun _ f H2 => ?_); (case hl => rfl); (case h1 => rfl); clear f; clear H; have H := H2; clear H2; simp (disch := omega) only [go_sem, undef, H.cs, *])
      | ((with_reducible refine stwQ1 H ?hl ?h1 fun _ f H2 => ?_); (case hl => rfl); (case h1 => rfl); clear f; clear H; have H := H2; clear H2; simp (disch := omega) only [go_sem, undef, H.cs, *])
      | ((with_reducible refine stwQ2 H ?hl ?h1 fun _ f H2 => ?_); (case hl => rfl); (case h1 => rfl); clear f; clear H; have H := H2; clear H2; simp (disch := omega) only [go_sem, undef, H.cs, *])
      | ((with_reducible refine stwQ3 H ?hl ?h1 fun _ f H2 => ?_); (case hl => rfl); (case h1 => rfl); clear f; clear H; have H := H2; clear H2; simp (disch := omega) only [go_sem, undef, H.cs, *])
      | ((with_reducible refine stwQ4 H ?hl ?h1 fun _ f H2 => ?_); (case hl => rfl); (case h1 => rfl); clear f; clear H; have H := H2; clear H2; simp (disch := omega) only [go_sem, undef, H.cs, *])
      | ((with_reducible refine stwQ5 H ?hl ?h1 fun _ f H2 => ?_); (case hl => rfl); (case h1 => rfl); clear f; clear H; have H := H2; clear H2; simp (disch := omega) only [go_sem, undef, H.cs, *])
      | ((with_reducible refine stQ0 H ?hl ?h1 fun _ f H2 => ?_); (case hl => exact Nat.le_of_ble_eq_true rfl); (case h1 => rfl); clear f; (simp only [go_sem] at H2); clear H; have H := H2; clear H2; simp (disch := omega) only [go_sem, undef, H.cs, *])
      | ((with_reducible refine stQ1 H ?hl ?h1 fun _ f H2 => ?_); (case hl => exact Nat.le_of_ble_eq_true rfl); (case h1 => rfl); clear f; (simp only [go_sem] at H2); clear H; have H := H2; clear H2; simp (disch := omega) only [go_sem, undef, H.cs, *])
      | ((with_reducible refine stQ2 H ?hl ?h1 fun _ f H2 => ?_); (case hl => exact Nat.le_of_ble_eq_true rfl); (case h1 => rfl); clear f; (simp only [go_sem] at H2); clear H; have H := H2; clear H2; simp (disch := omega) only [go_sem, undef, H.cs, *])
      | ((with_reducible refine stQ3 H ?hl ?h1 fun _ f H2 => ?_); (case hl => exact Nat.le_of_ble_eq_true rfl); (case h1 => rfl); clear f; (simp only [go_sem] at H2); clear H; have H := H2; clear H2; simp (disch := omega) only [go_sem, undef, H.cs, *])
      | ((with_reducible refine gQ_split (fun hq => ?_) (fun hq => ?_)) <;> (try simp only [Bool.not_true, Bool.not_false] at hq) <;> simp (disch := omega) only [go_sem, undef, H.cs, *])
      | ((with_reducible refine condB_split (fun hq => ?_) (fun hq => ?_)) <;> simp (disch := omega) only [go_sem, undef, H.cs, *]))
    all_goals (try simp only [decide_eq_true_eq, decide_eq_false_iff_not] at *)
    all_goals first
      | exact ⟨⟨rfl, H.hs.1⟩, H.fr⟩
      | (exfalso; omega)
theorem ref1_Read_s {a : Option Addr} {n c : Nat} : MC Tryz.prog n_ref1_Read [.slice a n c] m fun u M => (∃ rb, u = lpp rb ∧ m rb = none ∧ M rb = some (.cells [Value.slice a n c, .int .i64 0, .int .i64 0].toArray T_ref1_Reader (0, 0))) ∧ Fr m M [] := by
  refine ref1_Read_go (by simp [Tryz.f33]) ?_
  have H := Hq.refl m []
  simp (disch := omega) only [go_sem, undef]
  refine newQ H fun rb M f H => ?_
  simp (disch := omega) only [go_sem, undef]
  exact ⟨⟨rb, rfl, (H.done.2.2 rb (by simp)).resolve_left (by simp), H.cs.1⟩, H.fr⟩
theorem CN_end {T : TypeId} {u : Value} {l l' : List UInt8} {m M : Mem} {L : List As} (H : Hq m M [] (byA T u l :: L)) (e : l = l') : ∃ A', A' = byA T u l' ∧ A'.p M ∧ Fr m M [] ∧ ∀ b ∈ A'.fp, m b = none := by
  subst e
  exact ⟨_, rfl, H.hs.1, H.fr, fun b hb => (H.done.2.2 b hb).resolve_left (by simp)⟩
theorem rd_u64_and127 (x : Nat) (h : x < 2 ^ 64) : rd (.ibt .and) [.int .u64 (x : Int), .int .u64 127] m = some (.int .u64 ((x % 128 : Nat) : Int)) := by
  show some (Value.int .u64 (IntKind.u64.wrap _)) = _
  congr 2
  have : (BitVec.ofInt IntKind.u64.bits (x : Int) &&& BitVec.ofInt IntKind.u64.bits 127).toNat = x % 128 := by
    show (BitVec.ofInt 64 (x : Int) &&& BitVec.ofInt 64 127).toNat = _
    rw [BitVec.toNat_and, BitVec.toNat_ofInt, BitVec.toNat_ofInt]
    have h1 : ((x : Int) % ((2 ^ 64 : Nat) : Int)).toNat = x := by omega
    have h2 : ((127 : Int) % ((2 ^ 64 : Nat) : Int)).toNat = 2 ^ 7 - 1 := by decide
    rw [h1, h2, Nat.and_two_pow_sub_one_eq_mod]
  rw [this, u64_in]; omega
theorem rd_u64_or1 (x : Nat) (h : x < 2 ^ 64) (h2 : x % 2 = 0) : rd (.ibt .or) [.int .u64 (x : Int), .int .u64 1] m = some (.int .u64 ((x + 1 : Nat) : Int)) := by
  show some (Value.int .u64 (IntKind.u64.wrap _)) = _
  congr 2
  have : (BitVec.ofInt IntKind.u64.bits (x : Int) ||| BitVec.ofInt IntKind.u64.bits 1).toNat = x + 1 := by
    show (BitVec.ofInt 64 (x : Int) ||| BitVec.ofInt 64 1).toNat = _
    rw [BitVec.toNat_or, BitVec.toNat_ofInt, BitVec.toNat_ofInt]
    have h1 : ((x : Int) % ((2 ^ 64 : Nat) : Int)).toNat = x := by omega
    have h3 : ((1 : Int) % ((2 ^ 64 : Nat) : Int)).toNat = 1 := by decide
    rw [h1, h3]
    obtain ⟨q, rfl⟩ := Nat.dvd_of_mod_eq_zero h2
    have := Nat.two_pow_add_eq_or_of_lt (i := 1) (b := 1) (by decide) q
    rw [show (2 : Nat) ^ 1 = 2 from rfl] at this
    exact this.symm
  rw [this, u64_in]; omega
theorem ref1_Zig_s (n : Int) (h : -9223372036854775808 ≤ n ∧ n ≤ 9223372036854775807) : MC Tryz.prog n_ref1_Zig [.int .i64 n] m fun v M => v = .int .u64 ((zig n : Nat) : Int) ∧ Fr m M [] := by
  refine ref1_Zig_go (by simp [Tryz.f33]) ?_
  have e2 : ∀ (x : Int) M, 0 ≤ x → x ≤ 9223372036854775807 → rd (.ish .shl) [.int .u64 (IntKind.u64.wrap x), .int .u64 1] M = some (.int .u64 ((2 * x).toNat : Nat)) := fun x M h1 h2 => by
    show (if (1 : Int) < 0 then none else some (Value.int .u64 (IntKind.u64.wrap (IntKind.u64.wrap x * 2 ^ min (1 : Int).toNat 64)))) = _
    rw [if_neg (by omega)]
    congr 2
    show IntKind.u64.wrap (IntKind.u64.wrap x * 2) = _
    simp [IntKind.wrap, IntKind.bits, IntKind.signed]; omega
  by_cases h0 : n < 0
  · have e3 : (2 * (-n - 1)).toNat + 1 = zig n := by simp only [zig, if_pos h0]; omega
    simp (disch := omega) only [go_sem, undef, dec_t, rd_cpl_i64, e2, rd_u64_or1]
    exact ⟨by rw [e3], Fr.refl _ _⟩
  · have e3 : (2 * n).toNat = zig n := by simp only [zig, if_neg h0]
    simp (disch := omega) only [go_sem, undef, dec_f, e2]
    exact ⟨by rw [e3], Fr.refl _ _⟩
theorem ref1_Num_w {v : Value} {l : List UInt8} (hv : RdB m v l) (hl : l.length ≤ 549755813888) (n : Int) (hn : -9223372036854775808 ≤ n ∧ n ≤ 9223372036854775807) : CN Tryz.prog n_ref1_Num [v, .int .i64 n] m fun u A => A = byA T_uint8 u (l ++ numB n) := by
  obtain ⟨a, c, rfl⟩ := hv.form
  refine ref1_Num_go (by simp [Tryz.f33]) ?_
  have H := Hq.refl m []
  simp (disch := omega) only [go_sem, undef]
  refine newQ H fun b M f H => ?_
  have H := H.toRow 1 0 0 (by simp) (by omega)
  simp (disch := omega) only [go_sem, undef]
  have hv2 := hv.frame f
  refine appQ0 H (k := l.length) rfl (ldS_of hv2) (by rw [bys_len]; omega) (bys_one l) rfl (by omega) (by omega) fun u M f H => ?_
  have H : Hq m M [] [byA T_uint8 u (l ++ [])] := by simpa using H
  simp (disch := omega) only [go_sem, undef]
  refine callQ H (ref1_Zig_s n hn) fun M f H => ?_
  simp (disch := omega) only [go_sem, undef]
  refine loopQ_intro (fun k E m' => ∃ i q done w, k = 10 - i ∧ E = [(5, w), (6, .int .u64 (q : Nat))] ∧ i ≤ 9 ∧ q < 2 ^ (64 - 7 * i) ∧ done.length = i ∧ numB n = done ++ numF (10 - i) q ∧ Hq m m' [] [byA T_uint8 w (l ++ done)]) 10 rfl ⟨0, zig n, [], u, rfl, rfl, by omega, by simpa using zig_lt n hn, rfl, rfl, H⟩ ?_
  clear H f hv hv2
  rintro k E m' ⟨i, q, done, w, rfl, rfl, hi, hq, hd, he, H⟩
  have hp : (2 : Nat) ^ (64 - 7 * i) = if i = 9 then 2 else 2 ^ (64 - 7 * (i + 1)) * 128 := by
    split
    · rename_i e; subst e; decide
    · rw [show 64 - 7 * i = (64 - 7 * (i + 1)) + 7 from by omega, Nat.pow_add]
  have hq64 : q < 18446744073709551616 := Nat.lt_of_lt_of_le hq (Nat.le_trans (Nat.pow_le_pow_right (by omega) (show 64 - 7 * i ≤ 64 by omega)) (by decide))
  simp (disch := omega) only [go_sem, undef, u64_in]
  by_cases h1 : 128 ≤ q
  · have hi9 : i ≠ 9 := by
      rintro rfl
      simp at hp; omega
    rw [if_neg hi9] at hp
    simp (disch := omega) only [go_sem, undef, dec_t, u8_wrap, rd_u64_and127 q (by omega), rd_u8_or (q % 128 % 256) (by omega)]
    refine newQ H fun b1 M f H => ?_
    simp (disch := omega) only [go_sem, undef]
    refine appQ1 H (k := 1) rfl (ldS_cell (l := [_]) H.cs.1 (by simp)) rfl (by simp [Value.oneCell']) rfl (by simp; omega) (by simp; omega) fun w2 M f H => ?_
    have H := H.tail
    rw [show [Value.int IntKind.u8 ((q % 128 % 256 % 128 + 128 : Nat) : Int)].take (1 * 1) = bys [UInt8.ofNat (q % 128 + 128)] from by
      show [Value.int IntKind.u8 _] = [bv _]
      rw [← bv_of _ (by omega), show q % 128 % 256 % 128 = q % 128 from by omega]] at H
    have H : Hq m M [] [byA T_uint8 w2 (l ++ (done ++ [UInt8.ofNat (q % 128 + 128)]))] := by
      rw [← List.append_assoc, ← byA_app]; exact H
    simp (disch := omega) only [go_sem, undef, rd_u64_shr q 7 7 rfl (by omega)]
    have e10 : 10 - i = (10 - (i + 1)) + 1 := by omega
    rw [e10, numF, if_neg (by omega)] at he
    exact handN_intro (10 - (i + 1)) (by omega) ⟨i + 1, q / 2 ^ 7, _, w2, rfl, rfl, by omega, by rw [hp] at hq; exact Nat.div_lt_of_lt_mul (by omega), by simp [hd], by rw [he]; simp, H⟩
  · simp (disch := omega) only [go_sem, undef, dec_f, u8_wrap]
    refine newQ H fun b1 M f H => ?_
    simp (disch := omega) only [go_sem, undef]
    refine appQ1 H (k := 1) rfl (ldS_cell (l := [_]) H.cs.1 (by simp)) rfl (by simp [Value.oneCell']) rfl (by simp; omega) (by simp; omega) fun w2 M f H => ?_
    have H := H.tail
    rw [show [Value.int IntKind.u8 ((q % 256 : Nat) : Int)].take (1 * 1) = bys [UInt8.ofNat q] from by
      show [Value.int IntKind.u8 _] = [bv _]
      rw [show q % 256 = q from by omega, ← bv_of _ (by omega)]] at H
    have e10 : 10 - i = (10 - (i + 1)) + 1 := by omega
    rw [e10, numF, if_pos (by omega)] at he
    have H : Hq m M [] [byA T_uint8 w2 (l ++ numB n)] := by
      rw [he, ← List.append_assoc, ← byA_app]; exact H
    simp (disch := omega) only [go_sem, undef]
    exact CN_end H rfl
end Go.Fw
namespace Go.Fw
open Go.Proofs
variable {m m0 M : Mem} {S : List Nat} {L : List As}
variable {rb wb : Nat} {fv : Value} {rs : List Row} {D : Dk}
/-! a generation's records: what the document finds -/
theorem segN_pref (fl : List Fl) (g : Nat) : ∀ f k all lk size r, segN fl g f k all lk size = some r → ∃ t, r.1 = all ++ t
  | 0, k, all, lk, size, r, h => by
    rw [segN] at h; cases h; exact ⟨[], by simp⟩
  | f + 1, k, all, lk, size, r, h => by
    rw [segN] at h
    cases hl : lookF (nmB g k) fl with
    | none => rw [hl] at h; cases h; exact ⟨[], by simp⟩
    | some x =>
      rw [hl] at h
      simp only at h
      split at h
      · cases h
      split at h
      · cases h; exact ⟨_, rfl⟩
      · obtain ⟨t, ht⟩ := segN_pref fl g f _ _ _ _ r h
        exact ⟨_, by rw [ht, List.append_assoc]⟩
theorem fine_none {fl : List Fl} {g : Nat} (h : segN fl g 99 1 [] 0 0 = none) : (readG fl g).2.2.2 = false := by unfold readG; rw [h]
theorem fine_some {fl : List Fl} {g : Nat} {all : List Bs} {lk size : Nat} (h : segN fl g 99 1 [] 0 0 = some (all, lk, size)) : readG fl g = if hdrOk all then (all.tail, plC g lk, size, true) else ([], plC g lk, size, false) := by unfold readG; rw [h]
abbrev nH (h : Bs) : Int := ((⟨0, 0⟩ : RS).num h).1
abbrev vH (h : Bs) : Prop := (((⟨0, 0⟩ : RS).num h).2.fin h).wr = 0 ∧ 0 ≤ nH h
theorem hdr_cons (h : Bs) (r : List Bs) : hdrOk (h :: r) = decide (vH h ∧ nH h ≤ r.length) := by
  show decide _ = _
  congr 1
  exact propext ⟨fun ⟨a, b, c⟩ => ⟨⟨a, b⟩, c⟩, fun ⟨⟨a, b⟩, c⟩ => ⟨a, b, c⟩⟩
theorem fine_bad {fl : List Fl} {g : Nat} {h : Bs} {t : List Bs} {f k lk size : Nat} (hs : segN fl g 99 1 [] 0 0 = segN fl g f k (h :: t) lk size) (hv : ¬ vH h) : (readG fl g).2.2.2 = false := by
  cases e : segN fl g f k (h :: t) lk size with
  | none => rw [e] at hs; exact fine_none hs
  | some r =>
    obtain ⟨all, lk', size'⟩ := r
    obtain ⟨u, hu⟩ := segN_pref fl g f k (h :: t) lk size _ e
    rw [e] at hs
    have hu : all = h :: (t ++ u) := hu
    rw [fine_some hs, hu, hdr_cons, decide_eq_false fun h => hv h.1]; rfl
/-- what is told at the end -/
def FdX (fl : List Fl) (g : Nat) (n : Int) (outs : List Bs) (last : Nat) (e : Int) : Prop :=
  (decide (0 ≤ n) && decide (n ≤ outs.length)) = (readG fl g).2.2.2 ∧ ((readG fl g).2.2.2 = true → (readG fl g).1 = outs ∧ (readG fl g).2.1 = (g, last) ∧ rdE fl (readG fl g) = e)
theorem fdx_no {fl : List Fl} {g : Nat} {outs : List Bs} {last : Nat} {e : Int} (h : (readG fl g).2.2.2 = false) : FdX fl g (-1) outs last e := ⟨by rw [h]; rfl, by rw [h]; intro h; cases h⟩
theorem fdx_some {fl : List Fl} {g : Nat} {h : Bs} {outs : List Bs} {lk size : Nat} {x : Fl} {e : Int} (hs : segN fl g 99 1 [] 0 0 = some (h :: outs, lk, size)) (hv : vH h) (hlk : 0 < lk) (hx : lookF (nmB g lk) fl = some x) (he : e = if size < x.b.length then (size : Int) else -1) : FdX fl g (nH h) outs lk e := by
  have hr := fine_some hs
  have hd : decide (0 ≤ nH h) = true := decide_eq_true hv.2
  have hp : plC g lk = (g, lk) := if_neg (by omega)
  rw [hp] at hr
  unfold FdX
  by_cases hn : nH h ≤ outs.length
  · rw [hdr_cons, decide_eq_true ⟨hv, hn⟩] at hr
    simp only [if_true] at hr
    rw [hr, hd, decide_eq_true hn]
    refine ⟨rfl, fun _ => ⟨rfl, rfl, ?_⟩⟩
    show (if size < (rdB (lookF (nmB g lk) fl)).length then ((size : Nat) : Int) else -1) = e
    rw [hx, he]; rfl
  · rw [hdr_cons, decide_eq_false fun h => hn h.2] at hr
    simp only [Bool.false_eq_true, if_false] at hr
    rw [hr, hd, decide_eq_false hn]
    exact ⟨rfl, fun h => by cases h⟩
/-- bytes of rows, apart from the row itself -/
def plA (vs : List Value) (ls : List Bs) : As where
  fp := vs.flatMap blkOf
  wp := vs.flatMap blkOf
  sub _ h := h
  p m := F2 (fun v l => RdB m v l ∧ ∀ b ∈ blkOf v, m b ≠ none) vs ls
  st h e := F2_imp h fun v hv l hl => ⟨hl.1.st fun b hb => e b (List.mem_flatMap.2 ⟨v, hv, hb⟩), fun b hb => by rw [e b (List.mem_flatMap.2 ⟨v, hv, hb⟩)]; exact hl.2 b hb⟩
  th {m} h b hb := by
    obtain ⟨v, hv, hb2⟩ := List.mem_flatMap.1 hb
    exact F2_mem (Q := fun v => ∀ b ∈ blkOf v, m b ≠ none) h v hv b hb2
theorem Hq.brSplit {T : TypeId} {w : Value} {vs : List Value} {ls : List Bs} (H : Hq m0 m S (brA T w vs ls :: L)) : Hq m0 m S (ownA T 1 w vs.length (vs.flatMap v1) :: plA vs ls :: L) := by
  refine Hq.split (H.rep0 (A' := starA (ownA T 1 w vs.length (vs.flatMap v1)) (plA vs ls)) ⟨(H.at 0 rfl).1, (H.at 0 rfl).2.1, ?_, ?_⟩ (Fr.refl _ _) (fun b hb => .inl hb) fun b hb => .inl hb)
  · intro b hb h
    obtain ⟨v, hv, hb2⟩ := List.mem_flatMap.1 h
    exact (H.at 0 rfl).2.2 v hv b hb2 hb
  · intro b hb h
    obtain ⟨v, hv, hb2⟩ := List.mem_flatMap.1 hb
    exact (H.at 0 rfl).2.2 v hv b hb2 h
theorem Hq.plJoin {us vs : List Value} {ks ls : List Bs} (H : Hq m0 m S (plA us ks :: plA vs ls :: L)) : Hq m0 m S (plA (us ++ vs) (ks ++ ls) :: L) :=
  H.join.rep0 (A' := plA (us ++ vs) (ks ++ ls)) (F2_append (H.at 0 rfl) (H.at 1 rfl)) (Fr.refl _ _) (fun b hb => .inl (by have hb : b ∈ (us ++ vs).flatMap blkOf := hb; rw [List.flatMap_append] at hb; exact hb)) fun b hb => .inl (by have hb : b ∈ (us ++ vs).flatMap blkOf := hb; rw [List.flatMap_append] at hb; exact hb)
theorem Hq.plTail {v : Value} {vs : List Value} {l : Bs} {ls : List Bs} (H : Hq m0 m S (plA (v :: vs) (l :: ls) :: L)) : Hq m0 m S (plA vs ls :: L) := by
  have hp : (plA (v :: vs) (l :: ls)).p m := H.at 0 rfl
  have hp2 : (plA vs ls).p m := by
    cases hp with
    | cons _ h2 => exact h2
  exact H.rep0 (A' := plA vs ls) hp2 (Fr.refl _ _) (fun b hb => .inl (List.mem_append_right _ hb)) fun b hb => .inl (List.mem_append_right _ hb)
theorem Hq.plTail' {vs : List Value} {ls : List Bs} (H : Hq m0 m S (plA vs ls :: L)) : Hq m0 m S (plA vs.tail ls.tail :: L) := by
  have hl : vs.length = ls.length := F2_len (H.at 0 rfl)
  cases vs with
  | nil =>
    cases ls with
    | nil => exact H
    | cons _ _ => simp at hl
  | cons v vs =>
    cases ls with
    | nil => simp at hl
    | cons l ls => exact H.plTail
theorem pl_len {vs : List Value} {ls : List Bs} (h : (plA vs ls).p m) : vs.length = ls.length := F2_len h
theorem Hq.plNil (H : Hq m0 m S L) : Hq m0 m S (plA [] [] :: L) := H.add (A := plA [] []) F2.nil (Fr.refl _ _) (by simp [plA])
def FdR (fl : List Fl) (g : Nat) (u : Value) (A : As) : Prop := ∃ w us outs, ∃ (last : Nat) (e : Int), u = .tuple #[w, .int .i64 (last : Nat), .int .i64 e, .bool (readG fl g).2.2.2] ∧ A = rbA w us outs ∧ ((readG fl g).2.2.2 = true → (readG fl g).1 = outs ∧ (readG fl g).2.1 = (g, last) ∧ rdE fl (readG fl g) = e)
theorem fd_bad {fl : List Fl} {g : Nat} (h : (readG fl g).2.2.2 = false) (f : Fr m M []) : ∃ A', FdR fl g (.tuple #[.slice none 0 0, .int .i64 0, .int .i64 0, .bool false]) A' ∧ A'.p M ∧ Fr m M [] ∧ ∀ b ∈ A'.fp, m b = none :=
  ⟨rbA (.slice none 0 0) [] [], ⟨_, _, _, 0, 0, by rw [h]; rfl, rfl, by rw [h]; intro h; cases h⟩, rb_nil, f, by simp [rbA, blkOf]⟩
set_option maxHeartbeats 4000000 in
theorem fd_tail {E : Env} {g : Nat} {n : Int} {w : Value} {us : List Value} {outs : List Bs} {last : Nat} {e : Int} {fl : List Fl} (hul : us.length ≤ 1000000000) (hX : FdX fl g n outs last e)
    (e8 : E.get 8 = w) (e9 : E.get 9 = .int .i64 n) (e10 : E.get 10 = .int .i64 (last : Nat)) (e11 : E.get 11 = .int .i64 e) (h8 : E.has 8 = true) (h9 : E.has 9 = true) (h10 : E.has 10 = true) (h11 : E.has 11 = true)
    (H : Hq m M [] [ownA 37 1 w us.length (us.flatMap v1), plA us outs]) :
    wpN Tryz.prog (.seq ref8_found_r20 .ret) (retP [RV.slot 4, RV.slot 5, RV.slot 6, RV.slot 7] fun v M => ∃ A', FdR fl g v A' ∧ A'.p M ∧ Fr m M [] ∧ ∀ b ∈ A'.fp, m b = none) E M := by
  have hlen := pl_len (H.at 1 rfl)
  refine Own.formK (H.at 0 rfl) fun a c ew => ?_
  subst ew
  obtain ⟨hX1, hX2⟩ := hX
  have hfin : ∃ A', FdR fl g (.tuple #[.slice a us.length c, .int .i64 (last : Nat), .int .i64 e, .bool (readG fl g).2.2.2]) A' ∧ A'.p M ∧ Fr m M [] ∧ ∀ b ∈ A'.fp, m b = none :=
    ⟨rbA (.slice a us.length c) us outs, ⟨_, _, _, _, _, rfl, rfl, hX2⟩, ⟨⟨Own.rds (k := 1) (enc := v1) (by decide) v1_len (H.at 0 rfl), fun b hb => (ownA 37 1 _ _ _).th (H.at 0 rfl) b hb⟩, H.at 1 rfl⟩, H.fr, fun b hb => by
      rcases List.mem_append.1 hb with hb | hb
      · exact (H.nw (ownA 37 1 (.slice a us.length c) us.length (us.flatMap v1)) (by simp) b hb).resolve_right (by simp)
      · exact (H.nw (plA us outs) (by simp) b hb).resolve_right (by simp)⟩
  rw [← hX1] at hfin
  by_cases h0 : 0 ≤ n
  · by_cases h1 : n ≤ outs.length
    · rw [decide_eq_true h0, decide_eq_true h1] at hfin
      simp (disch := omega) only [go_sem, undef, e8, e9, e10, e11, h8, h9, h10, h11, dec_t (show n ≥ 0 from h0), dec_t (show ((us.length : Nat) : Int) ≥ n by omega)]
      exact hfin
    · rw [decide_eq_true h0, decide_eq_false h1] at hfin
      simp (disch := omega) only [go_sem, undef, e8, e9, e10, e11, h8, h9, h10, h11, dec_t (show n ≥ 0 from h0), dec_f (show ¬ ((us.length : Nat) : Int) ≥ n by omega)]
      exact hfin
  · rw [decide_eq_false h0] at hfin
    simp (disch := omega) only [go_sem, undef, e8, e9, e10, e11, h8, h9, h10, h11, dec_f (show ¬ n ≥ 0 from h0)]
    exact hfin
end Go.Fw
namespace Go.Fw
open Go.Proofs
variable {m m0 M : Mem} {S : List Nat} {L : List As}
variable {rb wb : Nat} {fv : Value} {rs : List Row} {D : Dk}
def FI (fl : List Fl) (g k : Nat) (n : Int) (outs : List Bs) (last : Nat) : Prop :=
  (∃ all lk size, segN fl g 99 1 [] 0 0 = segN fl g (100 - k) k all lk size ∧ last = lk ∧ lk + 1 = k ∧ ((k = 1 ∧ all = [] ∧ outs = [] ∧ n = -1) ∨ (1 < k ∧ ∃ h, all = h :: outs ∧ n = nH h ∧ vH h ∧ ∃ x, lookF (nmB g lk) fl = some x ∧ size = x.b.length))) ∨
  ((readG fl g).2.2.2 = false ∧ n = -1 ∧ 1 < k)
theorem segN_sn {fl : List Fl} {g f k lk size : Nat} {all : List Bs} (hl : lookF (nmB g k) fl = none) : segN fl g (f + 1) k all lk size = some (all, lk, size) := by rw [segN, hl]
theorem segN_ss {fl : List Fl} {g f k lk size : Nat} {all : List Bs} {x : Fl} (hl : lookF (nmB g k) fl = some x) : segN fl g (f + 1) k all lk size = if k = 1 ∧ (scanF x.b).1 = [] then none else if (scanF x.b).2 < x.b.length then some (all ++ (scanF x.b).1, k, (scanF x.b).2) else segN fl g f (k + 1) (all ++ (scanF x.b).1) k (scanF x.b).2 := by rw [segN, hl]
theorem fi_none {fl : List Fl} {g k : Nat} {n : Int} {outs : List Bs} {last : Nat} (h : FI fl g k n outs last) (hk : k ≤ 99) (hl : lookF (nmB g k) fl = none) : FdX fl g n outs last (-1) := by
  rcases h with ⟨all, lk, size, hs, rfl, hlk, hc⟩ | ⟨h1, rfl, _⟩
  · rw [show 100 - k = (99 - k) + 1 from by omega, segN_sn hl] at hs
    rcases hc with ⟨rfl, rfl, rfl, rfl⟩ | ⟨h1, hd, rfl, rfl, hv, x, hx, rfl⟩
    · refine fdx_no ?_
      rw [fine_some hs]; rfl
    · exact fdx_some hs hv (by omega) hx (by rw [if_neg (by omega)])
  · exact fdx_no h1
theorem fi_some {fl : List Fl} {g k : Nat} {n : Int} {outs : List Bs} {last : Nat} (h : FI fl g k n outs last) (hk : k ≤ 98) {x : Fl} (hl : lookF (nmB g k) fl = some x) (hv : k = 1 → (scanF x.b).1 ≠ [] → vH ((scanF x.b).1.headD [])) :
    ((scanF x.b).2 < x.b.length → FdX fl g (if k = 1 ∧ 0 < (scanF x.b).1.length then nH ((scanF x.b).1.headD []) else n) (outs ++ if k = 1 then (scanF x.b).1.tail else (scanF x.b).1) k (scanF x.b).2) ∧
    (¬ (scanF x.b).2 < x.b.length → FI fl g (k + 1) (if k = 1 ∧ 0 < (scanF x.b).1.length then nH ((scanF x.b).1.headD []) else n) (outs ++ if k = 1 then (scanF x.b).1.tail else (scanF x.b).1) k) := by
  have hle := (scanF_le x.b).2
  rcases h with ⟨all, lk, size, hs, rfl, hlk, hc⟩ | ⟨h1, rfl, hk1⟩
  · rw [show 100 - k = (99 - k) + 1 from by omega, segN_ss hl] at hs
    generalize (scanF x.b).2 = at_ at *
    generalize (scanF x.b).1 = l at *
    rcases hc with ⟨rfl, rfl, rfl, rfl⟩ | ⟨h1, hd, rfl, rfl, hvd, y, hy, rfl⟩
    · cases l with
      | nil =>
        rw [if_pos ⟨rfl, rfl⟩] at hs
        have hf := fine_none hs
        exact ⟨fun _ => fdx_no hf, fun _ => .inr ⟨hf, rfl, by omega⟩⟩
      | cons h t =>
        rw [if_neg (by simp)] at hs
        have hvh : vH h := hv rfl (by simp)
        refine ⟨fun ha => ?_, fun ha => ?_⟩
        · rw [if_pos ha, List.nil_append] at hs
          exact fdx_some hs hvh (by omega) hl (by rw [if_pos ha])
        · rw [if_neg ha, List.nil_append] at hs
          exact .inl ⟨h :: t, 1, at_, hs, rfl, rfl, .inr ⟨by omega, h, rfl, rfl, hvh, x, hl, by omega⟩⟩
    · rw [if_neg (by omega)] at hs
      rw [if_neg (by omega), if_neg (by omega)]
      refine ⟨fun ha => ?_, fun ha => ?_⟩
      · rw [if_pos ha] at hs
        exact fdx_some hs hvd (by omega) hl (by rw [if_pos ha])
      · rw [if_neg ha, show 99 - k = 100 - (k + 1) from by omega] at hs
        exact .inl ⟨_, k, at_, hs, rfl, rfl, .inr ⟨by omega, hd, rfl, rfl, hvd, x, hl, by omega⟩⟩
  · rw [if_neg (by omega), if_neg (by omega)]
    exact ⟨fun _ => fdx_no h1, fun _ => .inr ⟨h1, rfl, by omega⟩⟩
theorem fi_bad {fl : List Fl} {g : Nat} {n : Int} {outs : List Bs} {last : Nat} (h : FI fl g 1 n outs last) {x : Fl} (hl : lookF (nmB g 1) fl = some x) {hd : Bs} {t : List Bs} (hx : (scanF x.b).1 = hd :: t) (hv : ¬ vH hd) : (readG fl g).2.2.2 = false := by
  have hs : segN fl g 99 1 [] 0 0 = _ := segN_ss (f := 98) hl
  rw [hx, if_neg (by simp), List.nil_append] at hs
  by_cases ha : (scanF x.b).2 < x.b.length
  · rw [if_pos ha] at hs
    exact fine_bad (f := 0) (k := 1) (lk := 1) (size := (scanF x.b).2) (h := hd) (t := t) hs hv
  · rw [if_neg ha] at hs
    exact fine_bad (f := 98) (k := 2) (lk := 1) (size := (scanF x.b).2) (h := hd) (t := t) hs hv
abbrev fdTail : NC := .seq ref8_found_r20 .ret
theorem found_code : ref8_found_c = .seq ref8_found_r0 (.seq ref8_found_r1 (.seq ref8_found_r2 (.seq (.seq ref8_found_r3 (.block 0 (.loop [0, 1, 8, 9, 10, 11, 12] ref8_found_l1))) fdTail))) := rfl
set_option maxHeartbeats 16000000 in
theorem found_s (h : (rkA rb fv rs D).p m) (g : Nat) (hg : g < 100) (hs : Srt D.fl) (h99 : lookF (nmB g 99) D.fl = none) (hn : D.fl.length ≤ 90000) (hT : tot D.fl ≤ 5000000) :
    CN Tryz.prog n_ref8_found [lpD rb, .int .i64 (g : Nat)] m (FdR D.fl g) := by
  refine ref8_found_go (by simp [Tryz.f33]) ?_
  rw [found_code]
  generalize hC : fdTail = C
  have H := ((Hq.refl m []).plNil).nilRow 37 1
  simp (disch := omega) only [go_sem, undef]
  refine loopQ_intro (fun N E m' => ∃ k w us outs n, ∃ last : Nat, 1 ≤ k ∧ k ≤ 99 ∧ N = 100 - k ∧ us.length ≤ 5000000 * k ∧ last < 100 ∧ FI D.fl g k n outs last ∧
    E = [(0, lpD rb), (1, .int .i64 (g : Nat)), (8, w), (9, .int .i64 n), (10, .int .i64 (last : Nat)), (11, .int .i64 (-1)), (12, .int .i64 (k : Nat))] ∧ Hq m m' [] [ownA 37 1 w us.length (us.flatMap v1), plA us outs]) 99 rfl
    ⟨1, _, [], [], -1, 0, by omega, by omega, by omega, by simp, by omega, .inl ⟨[], 0, 0, rfl, rfl, rfl, .inl ⟨rfl, rfl, rfl, rfl⟩⟩, rfl, H⟩ ?_
  clear H
  rintro N E M1 ⟨k, w, us, outs, n, last, hk1, hk99, rfl, hul, hl100, hFI, rfl, H⟩
  simp (disch := omega) only [go_sem, undef]
  refine callQ H (segment_s g k hg (by omega)) fun M f H => ?_
  simp (disch := omega) only [go_sem, undef]
  refine callR H (rread_s ((rkA rb fv rs D).fr0 h H.fr) (nmB g k) hs (by omega)) fun u M hR f H => ?_
  refine Exists.elim hR fun w2 hw2 => ?_
  have eu := hw2.1
  have hb := hw2.2
  subst eu
  clear hw2 hR
  cases hlk : lookF (nmB g k) D.fl with
  | none =>
    rw [hlk] at hb
    have hX := fi_none hFI hk99 hlk
    have no : (none : Option Fl).isSome = false := rfl
    simp (disch := omega) only [go_sem, undef, no]
    subst hC
    exact fd_tail (by omega) hX rfl rfl rfl rfl rfl rfl rfl rfl H
  | some x =>
    rw [hlk] at hb
    have hb : RdB M w2 x.b := hb
    have hk98 : k ≤ 98 := by
      rcases Nat.lt_or_ge k 99 with h1 | h1
      · omega
      · have : k = 99 := by omega
        subst this; rw [h99] at hlk; cases hlk
    have hxt := lookF_tot hlk
    have hso : ∀ y : Fl, (some y).isSome = true := fun _ => rfl
    have hsl := scanF_le x.b
    have hok := scanF_ok x.b
    have hfs := fun hv => fi_some hFI hk98 hlk hv
    refine Exists.elim hb.form fun a5 hh => Exists.elim hh fun c5 ev => ?_
    subst ev
    clear hh
    simp (disch := omega) only [go_sem, undef, hso]
    refine callN H (ref8_Scan_s hb (by omega)) fun u M A' hR f H => ?_
    refine Exists.elim hR fun w3 hh => Exists.elim hh fun vs2 hh2 => ?_
    have eu := hh2.1
    have eA := hh2.2
    subst eu eA
    clear hh hh2 hR
    have hfb := fun (hk : k = 1) (hd : Bs) (t : List Bs) (hx : (scanF x.b).1 = hd :: t) (hv : ¬ vH hd) => fi_bad (by rw [hk] at hFI; exact hFI) (by rw [hk] at hlk; exact hlk) hx hv
    obtain ⟨at_, hat⟩ : ∃ at_, at_ = (scanF x.b).2 := ⟨_, rfl⟩
    obtain ⟨l, hl⟩ : ∃ l, l = (scanF x.b).1 := ⟨_, rfl⟩
    rw [← hl] at H
    rw [← hat, ← hl] at hfs hsl
    rw [← hat]
    rw [← hl] at hok hfb
    clear hat hl
    have H := H.brSplit
    have hvl : vs2.length = l.length := pl_len (H.at 1 rfl)
    refine Own.formK (H.at 0 rfl) fun a6 c6 e6 => ?_
    subst e6
    simp (disch := omega) only [go_sem, undef]
    refine loopQ_intro (fun N E m' => ∃ j w' n', ∃ cur : List Value, j ≤ vs2.length ∧ N = vs2.length - j ∧ n' = (if k = 1 ∧ 0 < j then nH (l.headD []) else n) ∧ cur = us ++ (if k = 1 then (vs2.take j).tail else vs2.take j) ∧ (0 < j → k = 1 → vH (l.headD [])) ∧
      E = [(0, lpD rb), (1, .int .i64 (g : Nat)), (8, w'), (9, .int .i64 n'), (11, .int .i64 (-1)), (12, .int .i64 (k : Nat)), (13, .slice a5 x.b.length c5), (15, .slice a6 vs2.length c6), (16, .int .i64 (at_ : Nat)), (17, .int .i64 (j : Nat))] ∧
      Hq m m' [] [ownA 37 1 (.slice a6 vs2.length c6) vs2.length (vs2.flatMap v1), plA vs2 l, ownA 37 1 w' cur.length (cur.flatMap v1), plA us outs]) vs2.length rfl ⟨0, w, n, us, by omega, by omega, by rw [if_neg (by omega)], by simp, by omega, rfl, H⟩ ?_
    clear H
    rintro N E M2 ⟨j, w', n', cur, hj, rfl, hn', hcur, hvh, rfl, H⟩
    have hcl : cur.length ≤ us.length + vs2.length := by
      rw [hcur, List.length_append]
      split <;> simp <;> omega
    by_cases hlt : j < vs2.length
    · refine RdS.elK (Own.rds (k := 1) (enc := v1) (by decide) v1_len (H.at 0 rfl)) hlt (by decide) fun bx o v hv hix hE => ?_
      refine F2_at (i := j) (H.at 1 rfl) hlt fun v' y hv' hy hR => ?_
      rw [hv] at hv'
      cases hv'
      have hyl := hok y (List.mem_of_getElem? hy)
      refine Exists.elim hR.1.form fun a7 hh => Exists.elim hh fun c7 ev => ?_
      subst ev
      clear hh
      by_cases hhd : k = 1 ∧ j = 0
      · obtain ⟨hk, hj0⟩ := hhd
        subst hj0
        have hl0 : ∃ t, l = y :: t := by
          cases l with
          | nil => simp at hy
          | cons z t => simp at hy; subst hy; exact ⟨t, rfl⟩
        obtain ⟨t, hlt2⟩ := hl0
        have hix : ∀ (kd : IntKind) (M : Mem), rd (.ixs 1) [.slice a6 vs2.length c6, .int kd 0] M = some (.pointer (some ⟨bx, o, none⟩)) := hix
        simp (disch := omega) only [go_sem, undef, dec_t (show ((0 : Nat) : Int) < (vs2.length : Nat) by omega), dec_t (show ((k : Nat) : Int) = 1 by omega), dec_t (show ((0 : Nat) : Int) = 0 from rfl), hix, hE.ld0]
        refine call_with ref1_Read_s fun u M3 hr => ?_
        refine Exists.elim hr.1 fun rb2 hh => ?_
        have eu := hh.1
        have hno := hh.2.1
        have hce := hh.2.2
        have f1 := hr.2
        subst eu
        have hp : (rdrA T_ref1_Reader rb2 a7 c7 y ⟨0, 0⟩).p M3 := ⟨hce, hR.1.frame f1, fun h2 => hR.2 rb2 (bk_sub _ h2) hno, fun z hz => f1.some (hR.2 z (bk_sub _ hz)) (by simp), Nat.zero_le _, by omega⟩
        simp (disch := omega) only [go_sem, undef]
        refine call_with (ref1_Num_s hp) fun u M4 hr => ?_
        have eu := hr.1.1
        have hp := hr.1.2
        have f2 := hr.2
        subst eu
        simp (disch := omega) only [go_sem, undef]
        refine call_with (ref1_End_s hp) fun u M5 hr => ?_
        have eu := hr.1.1
        have f3 := hr.2
        subst eu
        have H := H.keep (M := M5) ((f1.trans f2 fun z hz h0 => absurd (by simp at hz; rw [hz]; exact hno) h0).trans f3 fun z hz h0 => absurd (by simp at hz; rw [hz]; exact hno) h0)
        by_cases hv : vH y
        · have hv1 : ((((⟨0, 0⟩ : RS).num y).2.fin y).wr : Int) = 0 := hv.1
          simp (disch := omega) only [go_sem, undef, dec_f (show ¬ ((((⟨0, 0⟩ : RS).num y).2.fin y).wr : Int) ≠ 0 from fun h => h hv1), dec_f (show ¬ ((⟨0, 0⟩ : RS).num y).1 < 0 from Int.not_lt.2 hv.2)]
          refine handN_intro (vs2.length - (0 + 1)) (by omega) ⟨0 + 1, w', nH y, cur, by omega, rfl, by rw [if_pos ⟨hk, by omega⟩, hlt2]; rfl, ?_, fun _ _ => by rw [hlt2]; exact hv, rfl, H⟩
          rw [hcur, if_pos hk, if_pos hk]
          cases vs2 with
          | nil => simp at hlt
          | cons z zs => simp
        · have hbad := hfb hk y t hlt2 hv
          by_cases hv1 : ((((⟨0, 0⟩ : RS).num y).2.fin y).wr : Int) = 0
          · have hv2 : ((⟨0, 0⟩ : RS).num y).1 < 0 := by
              refine Int.not_le.1 fun h => hv ⟨hv1, h⟩
            simp (disch := omega) only [go_sem, undef, dec_f (show ¬ ((((⟨0, 0⟩ : RS).num y).2.fin y).wr : Int) ≠ 0 from fun h => h hv1), dec_t hv2]
            exact fd_bad hbad H.fr
          · simp (disch := omega) only [go_sem, undef, dec_t (show ((((⟨0, 0⟩ : RS).num y).2.fin y).wr : Int) ≠ 0 from hv1)]
            exact fd_bad hbad H.fr
      · have hv1 := one_of hR.1
        have hfwd : (if k = 1 ∧ 0 < j + 1 then nH (l.headD []) else n) = (if k = 1 ∧ 0 < j then nH (l.headD []) else n) := by
          by_cases hk : k = 1
          · rw [if_pos ⟨hk, by omega⟩, if_pos ⟨hk, by omega⟩]
          · rw [if_neg (fun h => hk h.1), if_neg (fun h => hk h.1)]
        have hcur2 : cur ++ [.slice a7 y.length c7] = us ++ (if k = 1 then (vs2.take (j + 1)).tail else vs2.take (j + 1)) := by
          rw [hcur, List.append_assoc]
          congr 1
          have ht : vs2.take (j + 1) = vs2.take j ++ [.slice a7 y.length c7] := by rw [List.take_add_one, hv]; rfl
          by_cases hk : k = 1
          · rw [if_pos hk, if_pos hk, ht]
            cases vs2 with
            | nil => simp at hlt
            | cons z zs =>
              cases j with
              | zero => exact absurd ⟨hk, rfl⟩ hhd
              | succ j => simp
          · rw [if_neg hk, if_neg hk, ht]
        have hgo : ∀ M3, Hq m M3 [] [ownA 37 1 (.slice a6 vs2.length c6) vs2.length (vs2.flatMap v1), plA vs2 l, ownA 37 1 w' cur.length (cur.flatMap v1), plA us outs] → True := fun _ _ => trivial
        clear hgo
        by_cases hk : k = 1
        · simp (disch := omega) only [go_sem, undef, dec_t (show ((j : Nat) : Int) < (vs2.length : Nat) by omega), dec_t (show ((k : Nat) : Int) = 1 by omega), dec_f (show ¬ ((j : Nat) : Int) = 0 from fun h => hhd ⟨hk, by omega⟩), hix, hE.ld0]
          refine newQ H fun b1 M3 f1 H => ?_
          simp (disch := omega) only [go_sem, undef]
          refine appQ3 H (k := 1) rfl (ldS_cell (l := [_]) H.cs.1 (by simp)) rfl (by simpa using hv1) rfl (by omega) (by omega) fun w4 M4 f4 H => ?_
          have H := H.tail
          have H : Hq m M4 [] [ownA 37 1 (.slice a6 vs2.length c6) vs2.length (vs2.flatMap v1), plA vs2 l, ownA 37 1 w4 (cur ++ [Value.slice a7 y.length c7]).length ((cur ++ [Value.slice a7 y.length c7]).flatMap v1), plA us outs] := by
            rw [List.length_append, List.flatMap_append]; exact H
          simp (disch := omega) only [go_sem, undef]
          exact handN_intro (vs2.length - (j + 1)) (by omega) ⟨j + 1, w4, n', cur ++ [.slice a7 y.length c7], by omega, rfl, by rw [hfwd]; exact hn', hcur2, fun _ h => hvh (Nat.pos_of_ne_zero fun h2 => hhd ⟨hk, h2⟩) h, rfl, H⟩
        · simp (disch := omega) only [go_sem, undef, dec_t (show ((j : Nat) : Int) < (vs2.length : Nat) by omega), dec_f (show ¬ ((k : Nat) : Int) = 1 by omega), hix, hE.ld0]
          refine newQ H fun b1 M3 f1 H => ?_
          simp (disch := omega) only [go_sem, undef]
          refine appQ3 H (k := 1) rfl (ldS_cell (l := [_]) H.cs.1 (by simp)) rfl (by simpa using hv1) rfl (by omega) (by omega) fun w4 M4 f4 H => ?_
          have H := H.tail
          have H : Hq m M4 [] [ownA 37 1 (.slice a6 vs2.length c6) vs2.length (vs2.flatMap v1), plA vs2 l, ownA 37 1 w4 (cur ++ [Value.slice a7 y.length c7]).length ((cur ++ [Value.slice a7 y.length c7]).flatMap v1), plA us outs] := by
            rw [List.length_append, List.flatMap_append]; exact H
          simp (disch := omega) only [go_sem, undef]
          exact handN_intro (vs2.length - (j + 1)) (by omega) ⟨j + 1, w4, n', cur ++ [.slice a7 y.length c7], by omega, rfl, by rw [hfwd]; exact hn', hcur2, fun _ h => absurd h hk, rfl, H⟩
    · have e : j = vs2.length := by omega
      subst e
      rw [List.take_length] at hcur
      have hfs := hfs fun hk hne => by
        refine hvh ?_ hk
        rw [hvl]; exact List.length_pos_iff.2 hne
      rw [hvl] at hn'
      rw [← hn'] at hfs
      have H : Hq m M2 [] [ownA 37 1 w' cur.length (cur.flatMap v1), plA cur (outs ++ if k = 1 then l.tail else l)] := by
        have H := H.tail
        rw [hcur]
        rw [hcur] at H
        by_cases hk : k = 1
        · simp only [if_pos hk] at H ⊢
          exact H.plTail'.rot3'.plJoin.perm (List.Perm.swap ..)
        · simp only [if_neg hk] at H ⊢
          exact H.rot3'.plJoin.perm (List.Perm.swap ..)
      by_cases ha : at_ < x.b.length
      · have hX := hfs.1 ha
        simp (disch := omega) only [go_sem, undef, dec_f (show ¬ ((vs2.length : Nat) : Int) < (vs2.length : Nat) by omega), dec_t (show ((at_ : Nat) : Int) < (x.b.length : Nat) by omega)]
        subst hC
        exact fd_tail (by omega) hX rfl rfl rfl rfl rfl rfl rfl rfl H
      · have hFI2 := hfs.2 ha
        simp (disch := omega) only [go_sem, undef, dec_f (show ¬ ((vs2.length : Nat) : Int) < (vs2.length : Nat) by omega), dec_f (show ¬ ((at_ : Nat) : Int) < (x.b.length : Nat) by omega)]
        exact handN_intro (100 - (k + 1)) (by omega) ⟨k + 1, w', cur, _, n', k, by omega, by omega, rfl, by omega, by omega, hFI2, rfl, H⟩
end Go.Fw
namespace Go.Fw
open Go.Proofs
variable {m m0 M : Mem} {S : List Nat} {L : List As}
variable {rb wb : Nat} {fv : Value} {rs : List Row} {D : Dk}
abbrev rwcA (wb rb : Nat) (W : Wl) : As := cellA wb (.cells (wlC rb W).toArray T_ref8_Wal (0, 0))
def rwA (wb rb : Nat) (fv : Value) (rs : List Row) (W : Wl) (D : Dk) : As := starA (rwcA wb rb W) (rkA rb fv rs D)
theorem rw_fw {W : Wl} : (rwA wb rb fv rs W D).fp = (rwA wb rb fv rs W D).wp := by simp [rwA, rkA, starA, bsA]
def ROpR (rb : Nat) (o : (Option Wl × List Bs) × Dk × Nat) (u : Value) (A : As) : Prop :=
  match o.1.1 with
  | none => u = .tuple #[.pointer none, .slice none 0 0, .int .i64 (o.2.2 : Nat)] ∧ ∃ fv rs, A = rkA rb fv rs o.2.1
  | some W => ∃ wb w vs fv rs, u = .tuple #[lpD wb, w, .int .i64 0] ∧ A = starA (rbA w vs o.1.2) (rwA wb rb fv rs W o.2.1)
theorem rop_fail {fv' : Value} {rs' : List Row} {D' : Dk} {e : Nat} {l : List Bs} {o : (Option Wl × List Bs) × Dk × Nat} (ho : o = ((none, l), D', e)) (H : Hq m M (rkA rb fv rs D).wp [rkA rb fv' rs' D']) :
    ∃ A', ROpR rb o (.tuple #[.pointer none, .slice none 0 0, .int .i64 (e : Nat)]) A' ∧ A'.p M ∧ Fr m M (rkA rb fv rs D).wp ∧ (∀ b ∈ A'.fp, b ∈ (rkA rb fv rs D).fp ∨ m b = none) ∧ ∀ b ∈ A'.wp, b ∈ (rkA rb fv rs D).wp ∨ m b = none := by
  subst ho
  exact ⟨_, ⟨rfl, _, _, rfl⟩, H.hs.1, H.fr, fun b hb => by rw [rk_fw]; rw [rk_fw] at hb; exact H.done.2.2 b hb, H.done.2.2⟩
theorem rop_done {fv' w : Value} {rs' : List Row} {vs : List Value} {l : List Bs} {D' : Dk} {W : Wl} {wb : Nat} {e : Nat} {o : (Option Wl × List Bs) × Dk × Nat} (ho : o = ((some W, l), D', e)) (H : Hq m M (rkA rb fv rs D).wp [rbA w vs l, rwA wb rb fv' rs' W D']) :
    ∃ A', ROpR rb o (.tuple #[lpD wb, w, .int .i64 0]) A' ∧ A'.p M ∧ Fr m M (rkA rb fv rs D).wp ∧ (∀ b ∈ A'.fp, b ∈ (rkA rb fv rs D).fp ∨ m b = none) ∧ ∀ b ∈ A'.wp, b ∈ (rkA rb fv rs D).wp ∨ m b = none := by
  subst ho
  have H := H.join
  have e : (starA (rbA w vs l) (rwA wb rb fv' rs' W D')).fp = (starA (rbA w vs l) (rwA wb rb fv' rs' W D')).wp := by
    show (rbA w vs l).fp ++ (rwA wb rb fv' rs' W D').fp = (rbA w vs l).wp ++ (rwA wb rb fv' rs' W D').wp
    rw [rw_fw]; rfl
  exact ⟨_, ⟨_, _, _, _, _, rfl, rfl⟩, H.hs.1, H.fr, fun b hb => by rw [rk_fw]; rw [e] at hb; exact H.done.2.2 b hb, H.done.2.2⟩
/-- behind the cut -/
def t2F (lg lk : Nat) (recs : List Bs) (ns : List Bs) (D1 : Dk) : (Option Wl × List Bs) × Dk × Nat :=
  if (clN (lg, lk) ns D1).2 ≠ 0 then ((none, []), clN (lg, lk) ns D1) else
    if lg = 0 then ((some ⟨lg, lk, false⟩, recs), (clN (lg, lk) ns D1).1, 0) else
    if (syncF (nmB lg lk) (clN (lg, lk) ns D1).1).2 ≠ 0 then ((none, []), syncF (nmB lg lk) (clN (lg, lk) ns D1).1) else ((some ⟨lg, lk, false⟩, recs), (syncF (nmB lg lk) (clN (lg, lk) ns D1).1).1, 0)
abbrev ropT2 : NC := .seq (.seq ref8_Open_r17 (.block 2 (.loop [0, 5, 6, 7, 18] ref8_Open_l1))) (.seq (.seq ref8_Open_r25 (.cond (.slot 139) (.seq ref8_Open_r26 (.seq ref8_Open_r27 (.cond (.slot 152) (.seq ref8_Open_r28 .ret) .skip))) .skip)) (.seq ref8_Open_r29 .ret))
theorem ropen_code : ref8_Open_c = .seq ref8_Open_r0 (.seq ref8_Open_r1 (.seq ref8_Open_r2 (.seq ref8_Open_r3 (.seq ref8_Open_r4 (.seq (.seq ref8_Open_r5 (.block 0 (.loop [0, 5, 6, 7, 8, 9] ref8_Open_l0))) (.seq (.seq ref8_Open_r13 (.cond (.slot 78) (.seq ref8_Open_r14 (.seq ref8_Open_r15 (.cond (.slot 92) (.seq ref8_Open_r16 .ret) .skip))) .skip)) ropT2)))))) := rfl
theorem pres_len {A B : Dk} (h : Pres A B) {n : Nat} (hn : A.fl.length ≤ n) : B.fl.length ≤ n := Nat.le_trans h.ln hn
set_option maxHeartbeats 16000000 in
theorem ropen_t2 {E : Env} {lg lk : Nat} {a : Option Addr} {c : Nat} {ns : List Bs} {w fv1 : Value} {rs1 : List Row} {vs : List Value} {recs : List Bs} {D1 : Dk} {o : (Option Wl × List Bs) × Dk × Nat} (hlg : lg < 100) (hlk : lk < 100) (hnm : ∀ x ∈ ns, NmOk x) (hnl : ns.length ≤ 90000) (hxl : ∀ x ∈ ns, x.length ≤ 1000000) (hs : Srt D1.fl) (hn : D1.fl.length ≤ 90000) (hT : tot D1.fl ≤ 5000000) (hl : D1.left ≤ 9223372036854775807)
    (e0 : E.get 0 = lpD rb) (e5 : E.get 5 = lpD wb) (e6 : E.get 6 = .slice a ns.length c) (e7 : E.get 7 = w) (h0 : E.has 0 = true) (h5 : E.has 5 = true) (h6 : E.has 6 = true) (h7 : E.has 7 = true)
    (H : Hq m M (rkA rb fv rs D).wp [rbA w vs recs, nsA (.slice a ns.length c) ns, rwcA wb rb ⟨lg, lk, false⟩, rkA rb fv1 rs1 D1]) (ho : o = t2F lg lk recs ns D1) :
    wpN Tryz.prog ropT2 (retP [RV.slot 2, RV.slot 3, RV.slot 4] fun v M => ∃ A', ROpR rb o v A' ∧ A'.p M ∧ Fr m M (rkA rb fv rs D).wp ∧ (∀ b ∈ A'.fp, b ∈ (rkA rb fv rs D).fp ∨ m b = none) ∧ ∀ b ∈ A'.wp, b ∈ (rkA rb fv rs D).wp ∨ m b = none) E M := by
  have hgr : clN (lg, lk) ns D1 = clN (lg, lk) (ns.drop 0) D1 := rfl
  generalize hC : (NC.seq (.seq ref8_Open_r25 (.cond (.slot 139) (.seq ref8_Open_r26 (.seq ref8_Open_r27 (.cond (.slot 152) (.seq ref8_Open_r28 .ret) .skip))) .skip)) (.seq ref8_Open_r29 .ret)) = C
  simp (disch := omega) only [go_sem, undef, e0, e5, e6, e7, h0, h5, h6, h7]
  refine loopQ_intro (fun k E m' => ∃ j D' fv' rs', j ≤ ns.length ∧ k = ns.length - j ∧ Pres D1 D' ∧ E = [(0, lpD rb), (5, lpD wb), (6, .slice a ns.length c), (7, w), (18, .int .i64 (j : Nat))] ∧ clN (lg, lk) ns D1 = clN (lg, lk) (ns.drop j) D' ∧ Hq m m' (rkA rb fv rs D).wp [rbA w vs recs, nsA (.slice a ns.length c) ns, rwcA wb rb ⟨lg, lk, false⟩, rkA rb fv' rs' D']) ns.length rfl ⟨0, D1, fv1, rs1, by omega, by omega, Pres.refl _, rfl, hgr, H⟩ ?_
  clear H hgr
  rintro k E M1 ⟨j, D', fv', rs', hj, rfl, hP, rfl, hgr, H⟩
  have hn' := pres_len hP hn
  have hl' : D'.left ≤ 9223372036854775807 := Nat.le_trans hP.lf hl
  have hs' := hP.srt hs
  by_cases hlt : j < ns.length
  · refine RdS.elK (Own.rds (k := 1) (enc := nmE) (by decide) nmE_len (H.at 1 rfl)) hlt (by decide) fun bx o1 x hx hix hE => ?_
    have hxm := List.mem_of_getElem? hx
    rw [clN_drop (lg, lk) ns j D' x hx] at hgr
    have hnm0 : (nmE x)[0]? = some (.string (zb x)) := rfl
    simp (disch := omega) only [go_sem, undef, dec_t (show ((j : Nat) : Int) < (ns.length : Nat) by omega), hix, hE.ld0, hnm0]
    refine callR H (named_s x (hxl x hxm)) fun u M hR f H => ?_
    refine Exists.elim hR fun g1 hh => Exists.elim hh fun k1 hh => ?_
    have eu := hh.1
    have hpp := hh.2
    rw [hnm x hxm] at eu hpp
    clear hh hR
    subst eu
    have hw := H.cs.1
    cases hplx : plF x with
    | none =>
      rw [hplx] at hgr
      have hnn : (none : Option (Nat × Nat)).isSome = false := rfl
      simp (disch := omega) only [go_sem, undef, hnn]
      exact handN_intro (ns.length - (j + 1)) (by omega) ⟨j + 1, D', fv', rs', by omega, rfl, hP, rfl, hgr, H⟩
    | some p =>
      rw [hplx] at hgr hpp
      have hss : (some p).isSome = true := rfl
      obtain ⟨e1, e2⟩ := hpp p rfl
      subst e1 e2
      by_cases hkeep : p.1 = lg ∧ p.2 ≤ lk
      · have hgr : clN (lg, lk) ns D1 = clN (lg, lk) (ns.drop (j + 1)) D' := by rw [hgr]; exact if_pos hkeep
        simp (disch := omega) only [go_sem, undef, hss, hw, wlC, dec_f (show ¬ ((p.1 : Nat) : Int) ≠ (lg : Nat) by omega), dec_f (show ¬ ((p.2 : Nat) : Int) > (lk : Nat) by omega)]
        exact handN_intro (ns.length - (j + 1)) (by omega) ⟨j + 1, D', fv', rs', by omega, rfl, hP, rfl, hgr, H⟩
      · have hgr : clN (lg, lk) ns D1 = if (rmF x D').2 ≠ 0 then rmF x D' else clN (lg, lk) (ns.drop (j + 1)) (rmF x D').1 := by rw [hgr]; exact if_neg hkeep
        have hPr := hP.trans (pres_rm x D')
        have hrm := rremove_s (H.at 3 rfl) x hs' (by omega) hl'
        generalize rmF x D' = rr at *
        obtain ⟨D2, e2⟩ := rr
        by_cases hg : p.1 = lg
        · have hk : ¬ p.2 ≤ lk := fun h => hkeep ⟨hg, h⟩
          simp (disch := omega) only [go_sem, undef, hss, hw, wlC, dec_f (show ¬ ((p.1 : Nat) : Int) ≠ (lg : Nat) by omega), dec_t (show ((p.2 : Nat) : Int) > (lk : Nat) by omega), hix, (hE.frame f).ld0, hnm0]
          refine callA3 H hrm fun u M A' hR f H => ?_
          refine Exists.elim hR.2 fun fv2 hh => Exists.elim hh fun rs2 eA => ?_
          have eu := hR.1
          subst eu eA
          clear hh hR
          by_cases he : e2 = 0
          · subst he
            have hgr : clN (lg, lk) ns D1 = clN (lg, lk) (ns.drop (j + 1)) D2 := by rw [hgr]; exact if_neg (by simp)
            simp (disch := omega) only [go_sem, undef, dec_f (show ¬ ((0 : Nat) : Int) ≠ 0 by simp)]
            exact handN_intro (ns.length - (j + 1)) (by omega) ⟨j + 1, D2, fv2, rs2, by omega, rfl, hPr, rfl, hgr, H⟩
          · have hgr : clN (lg, lk) ns D1 = (D2, e2) := by rw [hgr]; exact if_pos he
            unfold t2F at ho
            rw [hgr, if_pos he] at ho
            simp (disch := omega) only [go_sem, undef, dec_t (show ((e2 : Nat) : Int) ≠ 0 by omega)]
            exact rop_fail ho H.tail.tail.tail
        · simp (disch := omega) only [go_sem, undef, hss, hw, wlC, dec_t (show ((p.1 : Nat) : Int) ≠ (lg : Nat) by omega), hix, (hE.frame f).ld0, hnm0]
          refine callA3 H hrm fun u M A' hR f H => ?_
          refine Exists.elim hR.2 fun fv2 hh => Exists.elim hh fun rs2 eA => ?_
          have eu := hR.1
          subst eu eA
          clear hh hR
          by_cases he : e2 = 0
          · subst he
            have hgr : clN (lg, lk) ns D1 = clN (lg, lk) (ns.drop (j + 1)) D2 := by rw [hgr]; exact if_neg (by simp)
            simp (disch := omega) only [go_sem, undef, dec_f (show ¬ ((0 : Nat) : Int) ≠ 0 by simp)]
            exact handN_intro (ns.length - (j + 1)) (by omega) ⟨j + 1, D2, fv2, rs2, by omega, rfl, hPr, rfl, hgr, H⟩
          · have hgr : clN (lg, lk) ns D1 = (D2, e2) := by rw [hgr]; exact if_pos he
            unfold t2F at ho
            rw [hgr, if_pos he] at ho
            simp (disch := omega) only [go_sem, undef, dec_t (show ((e2 : Nat) : Int) ≠ 0 by omega)]
            exact rop_fail ho H.tail.tail.tail
  · have e : j = ns.length := by omega
    subst e
    rw [List.drop_length] at hgr
    have hgr : clN (lg, lk) ns D1 = (D', 0) := hgr
    unfold t2F at ho
    rw [hgr, if_neg (by simp)] at ho
    have hw := H.cs.1
    simp (disch := omega) only [go_sem, undef, dec_f (show ¬ ((ns.length : Nat) : Int) < (ns.length : Nat) by omega)]
    subst hC
    by_cases hg : lg = 0
    · rw [if_pos hg] at ho
      simp (disch := omega) only [go_sem, undef, hw, wlC, dec_f (show ¬ ((lg : Nat) : Int) > 0 by omega)]
      exact rop_done ho (Hq.perm (Hq.join (A := rwcA wb rb ⟨lg, lk, false⟩) ((H.drop 1).perm (List.Perm.refl _)).rot3'.rot3') (List.Perm.swap ..))
    · rw [if_neg hg] at ho
      have hsy := fun M fv rs (h : (rkA rb fv rs D').p M) => rsync_s h (nmB lg lk) hs' (by omega) hl' (by have := hP.tt; omega)
      generalize syncF (nmB lg lk) D' = sr at *
      obtain ⟨D3, e3⟩ := sr
      simp only at ho
      simp (disch := omega) only [go_sem, undef, hw, wlC, dec_t (show ((lg : Nat) : Int) > 0 by omega)]
      refine callQ H (segment_s lg lk hlg hlk) fun M f H => ?_
      simp (disch := omega) only [go_sem, undef]
      refine callA3 H (hsy _ _ _ (H.at 3 rfl)) fun u M A' hR f H => ?_
      refine Exists.elim hR.2 fun fv2 hh => Exists.elim hh fun rs2 eA => ?_
      have eu := hR.1
      subst eu eA
      clear hh hR
      by_cases he3 : e3 = 0
      · subst he3
        rw [if_neg (by simp)] at ho
        simp (disch := omega) only [go_sem, undef, dec_f (show ¬ ((0 : Nat) : Int) ≠ 0 by simp)]
        exact rop_done ho (Hq.perm (Hq.join (A := rwcA wb rb ⟨lg, lk, false⟩) ((H.drop 1).perm (List.Perm.refl _)).rot3'.rot3') (List.Perm.swap ..))
      · rw [if_pos he3] at ho
        simp (disch := omega) only [go_sem, undef, dec_t (show ((e3 : Nat) : Int) ≠ 0 by omega)]
        exact rop_fail ho H.tail.tail.tail
/-- what stands behind the names that were looked at -/
def BestR (fl : List Fl) (best lk : Nat) (outs : List Bs) (e : Int) : Prop :=
  (best = 0 ∧ lk = 0 ∧ outs = [] ∧ e = -1) ∨ (0 < best ∧ wholeG fl best ∧ (readG fl best).1 = outs ∧ (readG fl best).2.1 = (best, lk) ∧ rdE fl (readG fl best) = e)
set_option maxHeartbeats 16000000 in
theorem ropen_s (h : (rkA rb fv rs D).p m) (hnm : ∀ x ∈ D.fl, NmOk x.name) (hxl : ∀ x ∈ D.fl, x.name.length ≤ 1000000) (hs : Srt D.fl) (h99 : ∀ g, g < 100 → lookF (nmB g 99) D.fl = none) (hn : D.fl.length ≤ 90000) (hT : tot D.fl ≤ 5000000) (hl : D.left ≤ 9223372036854775807) (hkp : ∀ f ∈ D.fl, f.kept ≤ 1000000000) :
    CM Tryz.prog n_ref8_Open [lpD rb] m (rkA rb fv rs D) (ROpR rb (opF D)) := by
  obtain ⟨o, ho⟩ : ∃ o, o = opF D := ⟨_, rfl⟩
  rw [← ho]
  have hgg := gfN_grN (fl := D.fl)
  have hgr : gfN D.fl (D.fl.map Fl.name) 0 = gfN D.fl ((D.fl.map Fl.name).drop 0) 0 := rfl
  have hnm : ∀ nm ∈ D.fl.map Fl.name, NmOk nm := fun nm hnm2 => by
    obtain ⟨x, hx, rfl⟩ := List.mem_map.1 hnm2
    exact hnm x hx
  have hxl : ∀ nm ∈ D.fl.map Fl.name, nm.length ≤ 1000000 := fun nm hnm2 => by
    obtain ⟨x, hx, rfl⟩ := List.mem_map.1 hnm2
    exact hxl x hx
  have hnl : (D.fl.map Fl.name).length ≤ 90000 := by rw [List.length_map]; exact hn
  obtain ⟨ns, hns⟩ : ∃ ns, ns = D.fl.map Fl.name := ⟨_, rfl⟩
  rw [← hns] at hgg hgr hnm hxl hnl
  refine ref8_Open_go (by simp [Tryz.f33]) ?_
  rw [ropen_code]
  generalize hC : ropT2 = C
  have H := Hq.one h
  simp (disch := omega) only [go_sem, undef]
  refine newQ H fun wb M f0 H => ?_
  simp (disch := omega) only [go_sem, undef]
  refine callN H (rnames_s (H.at 1 rfl) (by omega)) fun u M A' eA f H => ?_
  subst eA
  rw [← hns] at H
  refine Own.formK (H.at 0 rfl) fun a c e => ?_
  subst e
  have H := H.add (A := rbA (.slice none 0 0) [] []) rb_nil (Fr.refl _ _) (by simp [rbA, blkOf])
  simp (disch := omega) only [go_sem, undef]
  refine loopQ_intro (fun k E m' => ∃ j best lk outs e w vs, j ≤ ns.length ∧ k = ns.length - j ∧ best < 100 ∧ BestR D.fl best lk outs e ∧ gfN D.fl ns 0 = gfN D.fl (ns.drop j) best ∧ E = [(0, lpD rb), (5, lpD wb), (6, .slice a ns.length c), (7, w), (8, .int .i64 e), (9, .int .i64 (j : Nat))] ∧
    Hq m m' (rkA rb fv rs D).wp [rbA w vs outs, nsA (.slice a ns.length c) ns, rwcA wb rb ⟨best, lk, false⟩, rkA rb fv rs D]) ns.length rfl ⟨0, 0, 0, [], -1, _, [], by omega, by omega, by omega, .inl ⟨rfl, rfl, rfl, rfl⟩, hgr, rfl, H⟩ ?_
  clear H hgr
  rintro k E M1 ⟨j, best, lk, outs, e, w, vs, hj, rfl, hb100, hB, hgr, rfl, H⟩
  by_cases hlt : j < ns.length
  · refine RdS.elK (Own.rds (k := 1) (enc := nmE) (by decide) nmE_len (H.at 1 rfl)) hlt (by decide) fun bx o1 x hx hix hE => ?_
    have hxm := List.mem_of_getElem? hx
    rw [gfN_drop D.fl ns j best x hx] at hgr
    have hnm0 : (nmE x)[0]? = some (.string (zb x)) := rfl
    simp (disch := omega) only [go_sem, undef, dec_t (show ((j : Nat) : Int) < (ns.length : Nat) by omega), hix, hE.ld0, hnm0]
    refine callR H (named_s x (hxl x hxm)) fun u M hR f H => ?_
    refine Exists.elim hR fun g1 hh => Exists.elim hh fun k1 hh => ?_
    have eu := hh.1
    have hpp := hh.2
    rw [hnm x hxm] at eu hpp
    clear hh hR
    subst eu
    have hw := H.cs.1
    cases hplx : plF x with
    | none =>
      rw [hplx] at hgr
      have hnn : (none : Option (Nat × Nat)).isSome = false := rfl
      simp (disch := omega) only [go_sem, undef, hnn]
      exact handN_intro (ns.length - (j + 1)) (by omega) ⟨j + 1, best, lk, outs, e, w, vs, by omega, rfl, hb100, hB, hgr, rfl, H⟩
    | some p =>
      rw [hplx] at hgr hpp
      have hss : (some p).isSome = true := rfl
      obtain ⟨e1, e2⟩ := hpp p rfl
      subst e1 e2
      have hp2 := plF_some hplx
      by_cases hskip : p.2 ≠ 1 ∨ p.1 ≤ best
      · have hgr : gfN D.fl ns 0 = gfN D.fl (ns.drop (j + 1)) best := by rw [hgr]; exact if_pos hskip
        by_cases h1 : p.2 = 1
        · have h2 : p.1 ≤ best := by omega
          simp (disch := omega) only [go_sem, undef, hss, dec_f (show ¬ ((p.2 : Nat) : Int) ≠ 1 by omega), hw, wlC, dec_t (show ((p.1 : Nat) : Int) ≤ (best : Nat) by omega)]
          exact handN_intro (ns.length - (j + 1)) (by omega) ⟨j + 1, best, lk, outs, e, w, vs, by omega, rfl, hb100, hB, hgr, rfl, H⟩
        · simp (disch := omega) only [go_sem, undef, hss, dec_t (show ((p.2 : Nat) : Int) ≠ 1 by omega)]
          exact handN_intro (ns.length - (j + 1)) (by omega) ⟨j + 1, best, lk, outs, e, w, vs, by omega, rfl, hb100, hB, hgr, rfl, H⟩
      · have h1 : p.2 = 1 := by omega
        have h2 : ¬ p.1 ≤ best := by omega
        have hgr : gfN D.fl ns 0 = if (readG D.fl p.1).2.2.2 then gfN D.fl (ns.drop (j + 1)) p.1 else gfN D.fl (ns.drop (j + 1)) best := by rw [hgr]; exact if_neg hskip
        simp (disch := omega) only [go_sem, undef, hss, dec_f (show ¬ ((p.2 : Nat) : Int) ≠ 1 by omega), hw, wlC, dec_f (show ¬ ((p.1 : Nat) : Int) ≤ (best : Nat) by omega)]
        refine callN H (found_s (H.at 3 rfl) p.1 hp2.2.1 hs (h99 _ hp2.2.1) hn hT) fun u M A' hR f H => ?_
        refine Exists.elim hR fun w2 hh => Exists.elim hh fun us2 hh => Exists.elim hh fun outs2 hh => Exists.elim hh fun last hh => Exists.elim hh fun e2 hh => ?_
        have eu := hh.1
        have eA := hh.2.1
        have hfd := hh.2.2
        subst eu eA
        clear hh hR
        cases hwh : (readG D.fl p.1).2.2.2 with
        | false =>
          rw [hwh] at hgr
          simp (disch := omega) only [go_sem, undef]
          exact handN_intro (ns.length - (j + 1)) (by omega) ⟨j + 1, best, lk, outs, e, w, vs, by omega, rfl, hb100, hB, hgr, rfl, H.tail⟩
        | true =>
          rw [hwh] at hgr
          obtain ⟨hf1, hf2, hf3⟩ := hfd hwh
          have H : Hq m M (rkA rb fv rs D).wp [rbA w2 us2 outs2, nsA (.slice a ns.length c) ns, rwcA wb rb ⟨best, lk, false⟩, rkA rb fv rs D] := H.drop 1
          have hw := H.cs.1
          simp (disch := omega) only [go_sem, undef, hw, wlC]
          refine wrQ2 H fun M f H => ?_
          have hw := H.cs.1
          simp (disch := omega) only [go_sem, undef, hw]
          refine wrQ2 H fun M f H => ?_
          simp (disch := omega) only [go_sem, undef]
          exact handN_intro (ns.length - (j + 1)) (by omega) ⟨j + 1, p.1, last, outs2, e2, w2, us2, by omega, rfl, hp2.2.1, .inr ⟨hp2.1, hwh, hf1, hf2, hf3⟩, hgr, rfl, H⟩
  · have e : j = ns.length := by omega
    subst e
    rw [List.drop_length] at hgr
    have hgr : grF D.fl = best := by rw [← hgg, hgr]; rfl
    simp (disch := omega) only [go_sem, undef, dec_f (show ¬ ((ns.length : Nat) : Int) < (ns.length : Nat) by omega)]
    rcases hB with ⟨rfl, rfl, rfl, rfl⟩ | ⟨hb0, hwh, hr1, hr2, hr3⟩
    · simp (disch := omega) only [go_sem, undef]
      subst hC
      refine ropen_t2 (by omega) (by omega) hnm hnl hxl hs hn hT hl rfl rfl rfl rfl rfl rfl rfl rfl H ?_
      rw [ho]
      unfold opF t2F clF
      rw [if_pos hgr, if_pos rfl, ← hns]
    · have hlk := readG_ok D.fl best
      rw [hr2] at hlk
      obtain ⟨_, hlk2, hsz⟩ := hlk
      have hlk2 : lk < 100 := hlk2
      have hoq := opF_eq D (by omega) _ rfl _ rfl
      rw [hgr] at hoq
      have hrr : readG D.fl best = (outs, (best, lk), (readG D.fl best).2.2.1, true) := by
        have h4 : (readG D.fl best).2.2.2 = true := hwh
        rw [← hr1, ← hr2, ← h4]
      generalize (readG D.fl best).2.2.1 = size at *
      rw [hrr] at hoq hr3
      unfold rdE at hr3
      simp only at hoq hr3
      by_cases hcut : size < (rdB (lookF (nmB best lk) D.fl)).length
      · rw [if_pos hcut] at hoq hr3
        have hcu := fun M (h : (rkA rb fv rs D).p M) => rcut_s h (nmB best lk) size hs (by omega) (by omega) hl (by omega) hkp
        have hcle := cut_le (nmB best lk) size D
        have hP := pres_cut (nmB best lk) size D
        generalize cutF (nmB best lk) size D = cu at *
        obtain ⟨D1, e1⟩ := cu
        simp only at hcle hoq hP hcu
        have hw := H.cs.1
        subst hr3
        simp (disch := omega) only [go_sem, undef, dec_t (show ((size : Nat) : Int) ≥ 0 by omega), hw, wlC]
        refine callQ H (segment_s best lk hb100 hlk2) fun M f H => ?_
        simp (disch := omega) only [go_sem, undef]
        refine callA3 H (hcu _ (H.at 3 rfl)) fun u M A' hR f H => ?_
        refine Exists.elim hR.2 fun fv2 hh => Exists.elim hh fun rs2 eA => ?_
        have eu := hR.1
        subst eu eA
        clear hh hR
        by_cases he1 : e1 = 0
        · subst he1
          simp (disch := omega) only [go_sem, undef, dec_f (show ¬ ((0 : Nat) : Int) ≠ 0 by simp)]
          subst hC
          refine ropen_t2 hb100 hlk2 hnm hnl hxl (hP.srt hs) (pres_len hP hn) (Nat.le_trans hP.tt hT) (Nat.le_trans hP.lf hl) rfl rfl rfl rfl rfl rfl rfl rfl H ?_
          rw [ho, hoq, if_neg (by simp)]
          unfold t2F clF
          rw [hcle.2.2.2, ← hns]
          simp only [if_neg (show ¬ best = 0 by omega)]
        · rw [if_pos he1] at hoq
          simp (disch := omega) only [go_sem, undef, dec_t (show ((e1 : Nat) : Int) ≠ 0 by omega)]
          exact rop_fail (ho.trans hoq) H.tail.tail.tail
      · rw [if_neg hcut] at hoq hr3
        subst hr3
        simp (disch := omega) only [go_sem, undef]
        subst hC
        refine ropen_t2 hb100 hlk2 hnm hnl hxl hs hn hT hl rfl rfl rfl rfl rfl rfl rfl rfl H ?_
        rw [ho, hoq, if_neg (by simp)]
        unfold t2F clF
        rw [← hns]
        simp only [if_neg (show ¬ best = 0 by omega)]
end Go.Fw
namespace Go.Fw
open Go.Proofs
variable {m m0 M : Mem} {S : List Nat} {L : List As}
variable {rb wb : Nat} {fv : Value} {rs : List Row} {D : Dk}
def RwR (wb rb : Nat) (W' : Wl) (D' : Dk) (V u : Value) (A : As) : Prop := u = V ∧ ∃ fv rs, A = rwA wb rb fv rs W' D'
end Go.Fw
namespace Go.Fw
open Go.Proofs
variable {m m0 M : Mem} {S : List Nat} {L : List As}
variable {rb wb : Nat} {fv : Value} {rs : List Row} {D : Dk}
end Go.Fw
