import Derived.Test.YtpjecpkkcabnjaaGreatDoorSwK
set_option linter.unusedVariables false
set_option linter.unusedSimpArgs false
/-! The law's own line. -/
namespace Go.Fw
open Go.Proofs Go.Sh
variable {m m0 M : Mem} {S : List Nat} {L : List As}
set_option maxHeartbeats 4000000 in
theorem lword_s (l : List UInt8) (hl : l.length ≤ 1000000) (m : Mem) : MC Tryz.prog n_law29_word [strV l] m fun v m' => v = strV (wordL l) ∧ Fr m m' [] := by
  refine law29_word_go (by simp [Tryz.f33]) ?_
  have H := Hq.refl m []
  simp (disch := omega) only [go_sem, undef]
  refine loopQ_intro (fun k E m' => ∃ (j : Nat), j ≤ l.length ∧ k = l.length - j ∧ E = [(0, strV l), (3, strV (61 :: (l.take j).flatMap enc1)), (4, .int .i64 (j : Nat))] ∧ Hq m m' [] []) l.length rfl ⟨0, by omega, rfl, rfl, H⟩ ?_
  clear H
  rintro k E M1 ⟨j, hj, rfl, rfl, H⟩
  by_cases hlt : j < l.length
  · have hc : l[j]? = some l[j] := List.getElem?_eq_getElem hlt
    have htk : l.take (j + 1) = l.take j ++ [l[j]] := by rw [List.take_add_one, hc]; rfl
    have hlen : ((l.take j).flatMap enc1).length ≤ 3 * j := by
      have : ∀ s : List UInt8, (s.flatMap enc1).length ≤ 3 * s.length := fun s => by
        have := wordL_len s
        unfold wordL at this
        rw [List.length_cons] at this; omega
      have := this (l.take j)
      rw [List.length_take] at this; omega
    generalize l[j] = c at hc htk
    have hfd : (61 : UInt8) :: (l.take (j + 1)).flatMap enc1 = (61 :: (l.take j).flatMap enc1) ++ enc1 c := by rw [htk, List.flatMap_append, List.flatMap_singleton]; rfl
    generalize (l.take j).flatMap enc1 = F at hlen hfd ⊢
    have hcl := c.toNat_lt
    by_cases hp : Go.Sh.plainB c = true
    · have hp2 := hp
      simp only [Go.Sh.plainB, decide_eq_true_eq] at hp2
      simp (disch := omega) only [go_sem, undef, rd_lenz_zb, dec_t (show ((j : Nat) : Int) < (l.length : Nat) by omega), rd_idxs_l hc, dec_t (show (32 : Int) < (c.toNat : Nat) by omega), dec_t (show ((c.toNat : Nat) : Int) < 127 by omega), decide_eq_false (show ¬ ((c.toNat : Nat) : Int) = 37 by omega)]
      refine newQ H fun b1 M f H => ?_
      have hr : RdB M (.slice (some ⟨b1, 0, none⟩) [c].length 1) [c] := byA_rd (Hq.ofCell (size := 1) (n := 1) (cap := 1) (xs := bys [c]) (tail := []) H rfl rfl).hs.1
      have H := H.drop 0
      have hb : rd .b2s [.slice (some ⟨b1, 0, none⟩) 1 1] M = some (strV [c]) := rd_b2s (l := [c]) hr
      have ha : ∀ M, rd (.str .add) [strV (61 :: F), strV [c]] M = some (strV ((61 :: F) ++ [c])) := rd_zadd _ _ (by simp; omega)
      rw [enc1_plain hp] at hfd
      simp (disch := omega) only [go_sem, undef, hb, ha]
      exact handN_intro (l.length - (j + 1)) (by omega) ⟨j + 1, by omega, rfl, by rw [hfd]; rfl, H⟩
    · have hp2 := hp
      simp only [Go.Sh.plainB, decide_eq_true_eq] at hp2
      rw [enc1_hex hp] at hfd
      have ha : ∀ M, rd (.str .add) [strV (61 :: F), strV [37, hexD (c.toNat / 16), hexD (c.toNat % 16)]] M = some (strV ((61 :: F) ++ [37, hexD (c.toNat / 16), hexD (c.toNat % 16)])) := rd_zadd _ _ (by simp; omega)
      rcases (by omega : ¬ 32 < c.toNat ∨ (32 < c.toNat ∧ ¬ c.toNat < 127) ∨ (32 < c.toNat ∧ c.toNat < 127 ∧ c.toNat = 37)) with h1 | ⟨h1, h2⟩ | ⟨h1, h2, h3⟩
      · simp (disch := omega) only [go_sem, undef, rd_lenz_zb, dec_t (show ((j : Nat) : Int) < (l.length : Nat) by omega), rd_idxs_l hc, u8_shr4, u8_and15, hexS_at (n := c.toNat / 16) (by omega), hexS_at (n := c.toNat % 16) (by omega), dec_f (show ¬ (32 : Int) < (c.toNat : Nat) by omega)]
        refine newQ H fun b1 M f H => ?_
        have hr : RdB M (.slice (some ⟨b1, 0, none⟩) [37, hexD (c.toNat / 16), hexD (c.toNat % 16)].length 3) [37, hexD (c.toNat / 16), hexD (c.toNat % 16)] := byA_rd (Hq.ofCell (size := 1) (n := 3) (cap := 3) (xs := bys [37, hexD (c.toNat / 16), hexD (c.toNat % 16)]) (tail := []) H rfl rfl).hs.1
        have H := H.drop 0
        have hb : rd .b2s [.slice (some ⟨b1, 0, none⟩) 3 3] M = some (strV [37, hexD (c.toNat / 16), hexD (c.toNat % 16)]) := rd_b2s (l := [37, hexD (c.toNat / 16), hexD (c.toNat % 16)]) hr
        simp (disch := omega) only [go_sem, undef, hb, ha]
        exact handN_intro (l.length - (j + 1)) (by omega) ⟨j + 1, by omega, rfl, by rw [hfd]; rfl, H⟩
      · simp (disch := omega) only [go_sem, undef, rd_lenz_zb, dec_t (show ((j : Nat) : Int) < (l.length : Nat) by omega), rd_idxs_l hc, u8_shr4, u8_and15, hexS_at (n := c.toNat / 16) (by omega), hexS_at (n := c.toNat % 16) (by omega), dec_t (show (32 : Int) < (c.toNat : Nat) by omega), dec_f (show ¬ ((c.toNat : Nat) : Int) < 127 by omega)]
        refine newQ H fun b1 M f H => ?_
        have hr : RdB M (.slice (some ⟨b1, 0, none⟩) [37, hexD (c.toNat / 16), hexD (c.toNat % 16)].length 3) [37, hexD (c.toNat / 16), hexD (c.toNat % 16)] := byA_rd (Hq.ofCell (size := 1) (n := 3) (cap := 3) (xs := bys [37, hexD (c.toNat / 16), hexD (c.toNat % 16)]) (tail := []) H rfl rfl).hs.1
        have H := H.drop 0
        have hb : rd .b2s [.slice (some ⟨b1, 0, none⟩) 3 3] M = some (strV [37, hexD (c.toNat / 16), hexD (c.toNat % 16)]) := rd_b2s (l := [37, hexD (c.toNat / 16), hexD (c.toNat % 16)]) hr
        simp (disch := omega) only [go_sem, undef, hb, ha]
        exact handN_intro (l.length - (j + 1)) (by omega) ⟨j + 1, by omega, rfl, by rw [hfd]; rfl, H⟩
      · simp (disch := omega) only [go_sem, undef, rd_lenz_zb, dec_t (show ((j : Nat) : Int) < (l.length : Nat) by omega), rd_idxs_l hc, u8_shr4, u8_and15, hexS_at (n := c.toNat / 16) (by omega), hexS_at (n := c.toNat % 16) (by omega), dec_t (show (32 : Int) < (c.toNat : Nat) by omega), dec_t (show ((c.toNat : Nat) : Int) < 127 by omega), decide_eq_true (show ((c.toNat : Nat) : Int) = 37 by omega)]
        refine newQ H fun b1 M f H => ?_
        have hr : RdB M (.slice (some ⟨b1, 0, none⟩) [37, hexD (c.toNat / 16), hexD (c.toNat % 16)].length 3) [37, hexD (c.toNat / 16), hexD (c.toNat % 16)] := byA_rd (Hq.ofCell (size := 1) (n := 3) (cap := 3) (xs := bys [37, hexD (c.toNat / 16), hexD (c.toNat % 16)]) (tail := []) H rfl rfl).hs.1
        have H := H.drop 0
        have hb : rd .b2s [.slice (some ⟨b1, 0, none⟩) 3 3] M = some (strV [37, hexD (c.toNat / 16), hexD (c.toNat % 16)]) := rd_b2s (l := [37, hexD (c.toNat / 16), hexD (c.toNat % 16)]) hr
        simp (disch := omega) only [go_sem, undef, hb, ha]
        exact handN_intro (l.length - (j + 1)) (by omega) ⟨j + 1, by omega, rfl, by rw [hfd]; rfl, H⟩
  · have e : j = l.length := by omega
    subst e
    rw [List.take_length]
    simp (disch := omega) only [go_sem, undef, rd_lenz_zb, dec_f (show ¬ ((l.length : Nat) : Int) < (l.length : Nat) by omega)]
    exact ⟨rfl, H.fr⟩
theorem rd_zk (a b : List UInt8) (h : a.length + b.length ≤ 9223372036854775807) (m : Mem) : rd (.str .add) [.string ⟨a.toArray⟩, strV b] m = some (strV (a ++ b)) := rd_zadd a b h m
theorem rd_kz (a b : List UInt8) (h : a.length + b.length ≤ 9223372036854775807) (m : Mem) : rd (.str .add) [strV a, .string ⟨b.toArray⟩] m = some (strV (a ++ b)) := rd_zadd a b h m
theorem join_fm : ∀ (w : List UInt8) (ws : List (List UInt8)), Lib.join (w :: ws) [32] = w ++ ws.flatMap (fun x => 32 :: x)
  | w, [] => by rw [Lib.join_one]; simp
  | w, x :: ws => by
    have ih := join_fm x ws
    have : Lib.join (w :: x :: ws) [32] = w ++ 32 :: Lib.join (x :: ws) [32] := by rw [Lib.join_cons, Lib.join_cons]; simp [Lib.joinTail]
    rw [this, ih]; simp
theorem lineL_fm {s : Stp} {nm : List UInt8} (h : nameOf s = some nm) : lineL s = nm ++ (restL s).flatMap (fun x => 32 :: x) := by
  unfold lineL; rw [h]; exact join_fm _ _
theorem lineL_1 {s : Stp} {nm : List UInt8} (h : nameOf s = some nm) (h1 : s.kind ≠ 1) (h7 : s.kind ≠ 7) (h8 : s.kind ≠ 8) : lineL s = nm ++ (32 :: Lib.itoa s.n) := by
  rw [lineL_fm h]; unfold restL numsL; rw [if_neg h1, if_neg h7, if_neg h1, if_neg h8]; simp
theorem lineL_c {s : Stp} {nm : List UInt8} (h : nameOf s = some nm) (h1 : s.kind = 1) : lineL s = nm ++ (32 :: Lib.itoa s.client ++ 32 :: Lib.itoa s.n ++ ((txtsL s).map wordL).flatMap (fun x => 32 :: x)) := by
  rw [lineL_fm h]; unfold restL numsL; rw [if_pos h1, if_pos h1, if_neg (by omega)]; simp
set_option maxHeartbeats 8000000 in
set_option maxRecDepth 100000 in
theorem lline_s {s : Stp} {a : Option Addr} {c : Nat} (hG : Gs m) (hs : Fit s) (hp : RdS 1 ic m (.slice a s.picks.length c) s.picks) :
    MC Tryz.prog n_law29_line [.agg (stc s a s.picks.length c).toArray] m fun v M => v = strV (lineL s) ∧ Fr m M [] := by
  have l1 := itoa_le s.n hs.ok.n
  have l2 := itoa_le s.count hs.ok.count
  have l3 := itoa_le s.client hs.ok.client
  have w1 := wordL_len s.key
  have w2 := wordL_len s.fin
  have w3 := wordL_len s.old
  have w4 := wordL_len s.val
  obtain ⟨hok, b1, b2, b3, b4, b5⟩ := hs
  obtain ⟨N, hN⟩ : ∃ N, N = 32 :: Lib.itoa s.n := ⟨_, rfl⟩
  have lN : N.length ≤ 22 := by rw [hN, List.length_cons]; omega
  have z0 : ∀ M, rd (.str .add) [.string ⟨#[32]⟩, strV (Lib.itoa s.n)] M = some (strV N) := hN ▸ rd_zk [32] _ (by simp; omega)
  by_cases k2 : s.kind = 2
  · have hl := lineL_1 (s := s) (nm := [103, 105, 118, 101]) (by unfold nameOf fitsK; simp [k2, kindsL]) (by omega) (by omega) (by omega)
    rw [← hN] at hl
    have z1 : ∀ M, rd (.str .add) [.string ⟨#[103, 105, 118, 101]⟩, strV N] M = some (strV (lineL s)) := hl ▸ rd_zk [103, 105, 118, 101] N (by simp; omega)
    refine law29_line_go (by simp [Tryz.f33]) ?_
    have H := Hq.refl m []
    simp (disch := omega) only [go_sem, undef]
    refine newQ H fun sb M f H => ?_
    simp (disch := omega) only [go_sem, undef, H.cs]
    refine callQ H (itoa_s s.n hok.n (hG.fr H.fr)) fun M f H => ?_
    simp (disch := omega) only [go_sem, undef, H.cs, z0, z1, decide_eq_true k2]
    exact ⟨rfl, H.fr⟩
  by_cases k3 : s.kind = 3
  · have hl := lineL_1 (s := s) (nm := [99, 111, 112, 121]) (by unfold nameOf fitsK; simp [k3, kindsL]) (by omega) (by omega) (by omega)
    rw [← hN] at hl
    have z1 : ∀ M, rd (.str .add) [.string ⟨#[99, 111, 112, 121]⟩, strV N] M = some (strV (lineL s)) := hl ▸ rd_zk [99, 111, 112, 121] N (by simp; omega)
    refine law29_line_go (by simp [Tryz.f33]) ?_
    have H := Hq.refl m []
    simp (disch := omega) only [go_sem, undef]
    refine newQ H fun sb M f H => ?_
    simp (disch := omega) only [go_sem, undef, H.cs]
    refine callQ H (itoa_s s.n hok.n (hG.fr H.fr)) fun M f H => ?_
    simp (disch := omega) only [go_sem, undef, H.cs, z0, z1, decide_eq_false k2, decide_eq_true k3]
    exact ⟨rfl, H.fr⟩
  by_cases k4 : s.kind = 4
  · have hl := lineL_1 (s := s) (nm := [108, 111, 115, 101]) (by unfold nameOf fitsK; simp [k4, kindsL]) (by omega) (by omega) (by omega)
    rw [← hN] at hl
    have z1 : ∀ M, rd (.str .add) [.string ⟨#[108, 111, 115, 101]⟩, strV N] M = some (strV (lineL s)) := hl ▸ rd_zk [108, 111, 115, 101] N (by simp; omega)
    refine law29_line_go (by simp [Tryz.f33]) ?_
    have H := Hq.refl m []
    simp (disch := omega) only [go_sem, undef]
    refine newQ H fun sb M f H => ?_
    simp (disch := omega) only [go_sem, undef, H.cs]
    refine callQ H (itoa_s s.n hok.n (hG.fr H.fr)) fun M f H => ?_
    simp (disch := omega) only [go_sem, undef, H.cs, z0, z1, decide_eq_false k2, decide_eq_false k3, decide_eq_true k4]
    exact ⟨rfl, H.fr⟩
  by_cases k5 : s.kind = 5
  · have hl := lineL_1 (s := s) (nm := [116, 105, 99, 107]) (by unfold nameOf fitsK; simp [k5, kindsL]) (by omega) (by omega) (by omega)
    rw [← hN] at hl
    have z1 : ∀ M, rd (.str .add) [.string ⟨#[116, 105, 99, 107]⟩, strV N] M = some (strV (lineL s)) := hl ▸ rd_zk [116, 105, 99, 107] N (by simp; omega)
    refine law29_line_go (by simp [Tryz.f33]) ?_
    have H := Hq.refl m []
    simp (disch := omega) only [go_sem, undef]
    refine newQ H fun sb M f H => ?_
    simp (disch := omega) only [go_sem, undef, H.cs]
    refine callQ H (itoa_s s.n hok.n (hG.fr H.fr)) fun M f H => ?_
    simp (disch := omega) only [go_sem, undef, H.cs, z0, z1, decide_eq_false k2, decide_eq_false k3, decide_eq_false k4, decide_eq_true k5]
    exact ⟨rfl, H.fr⟩
  by_cases k6 : s.kind = 6
  · have hl := lineL_1 (s := s) (nm := [116, 105, 109, 101]) (by unfold nameOf fitsK; simp [k6, kindsL]) (by omega) (by omega) (by omega)
    rw [← hN] at hl
    have z1 : ∀ M, rd (.str .add) [.string ⟨#[116, 105, 109, 101]⟩, strV N] M = some (strV (lineL s)) := hl ▸ rd_zk [116, 105, 109, 101] N (by simp; omega)
    refine law29_line_go (by simp [Tryz.f33]) ?_
    have H := Hq.refl m []
    simp (disch := omega) only [go_sem, undef]
    refine newQ H fun sb M f H => ?_
    simp (disch := omega) only [go_sem, undef, H.cs]
    refine callQ H (itoa_s s.n hok.n (hG.fr H.fr)) fun M f H => ?_
    simp (disch := omega) only [go_sem, undef, H.cs, z0, z1, decide_eq_false k2, decide_eq_false k3, decide_eq_false k4, decide_eq_false k5, decide_eq_true k6]
    exact ⟨rfl, H.fr⟩
  by_cases k9 : s.kind = 9
  · have hl := lineL_1 (s := s) (nm := [115, 116, 97, 114, 116]) (by unfold nameOf fitsK; simp [k9, kindsL]) (by omega) (by omega) (by omega)
    rw [← hN] at hl
    have z1 : ∀ M, rd (.str .add) [.string ⟨#[115, 116, 97, 114, 116]⟩, strV N] M = some (strV (lineL s)) := hl ▸ rd_zk [115, 116, 97, 114, 116] N (by simp; omega)
    refine law29_line_go (by simp [Tryz.f33]) ?_
    have H := Hq.refl m []
    simp (disch := omega) only [go_sem, undef]
    refine newQ H fun sb M f H => ?_
    simp (disch := omega) only [go_sem, undef, H.cs]
    refine callQ H (itoa_s s.n hok.n (hG.fr H.fr)) fun M f H => ?_
    simp (disch := omega) only [go_sem, undef, H.cs, z0, z1, decide_eq_false k2, decide_eq_false k3, decide_eq_false k4, decide_eq_false k5, decide_eq_false k6, decide_eq_true k9]
    exact ⟨rfl, H.fr⟩
  by_cases k7 : s.kind = 7
  · have hl := lineL_fm (s := s) (nm := [97, 114, 109]) (by unfold nameOf fitsK; simp [k7, kindsL])
    obtain ⟨A, hA⟩ : ∃ A, A = [97, 114, 109] ++ N := ⟨_, rfl⟩
    obtain ⟨B, hB⟩ : ∃ B, B = A ++ [32] := ⟨_, rfl⟩
    have lA : A.length ≤ 30 := by rw [hA]; simp; omega
    have lB : B.length ≤ 40 := by rw [hB]; simp; omega
    have z1 : ∀ M, rd (.str .add) [.string ⟨#[97, 114, 109]⟩, strV N] M = some (strV A) := hA ▸ rd_zk [97, 114, 109] N (by simp; omega)
    have z2 : ∀ M, rd (.str .add) [strV A, .string ⟨#[32]⟩] M = some (strV B) := hB ▸ rd_kz A [32] (by simp; omega)
    have he : B ++ Lib.itoa s.count = lineL s := by rw [hl, hB, hA, hN]; unfold restL numsL; rw [if_neg (by omega), if_pos k7, if_neg (by omega), if_neg (by omega)]; simp
    have z3 : ∀ M, rd (.str .add) [strV B, strV (Lib.itoa s.count)] M = some (strV (lineL s)) := he ▸ rd_zadd B (Lib.itoa s.count) (by omega)
    refine law29_line_go (by simp [Tryz.f33]) ?_
    have H := Hq.refl m []
    simp (disch := omega) only [go_sem, undef]
    refine newQ H fun sb M f H => ?_
    simp (disch := omega) only [go_sem, undef, H.cs]
    refine callQ H (itoa_s s.n hok.n (hG.fr H.fr)) fun M f H => ?_
    simp (disch := omega) only [go_sem, undef, H.cs, z0, z1, z2, decide_eq_false k2, decide_eq_false k3, decide_eq_false k4, decide_eq_false k5, decide_eq_false k6, decide_eq_false k9, decide_eq_true k7]
    refine callQ H (itoa_s s.count hok.count (hG.fr H.fr)) fun M f H => ?_
    simp (disch := omega) only [go_sem, undef, z3]
    exact ⟨rfl, H.fr⟩
  by_cases k8 : s.kind = 8
  · have hl := lineL_fm (s := s) (nm := [99, 114, 97, 115, 104]) (by unfold nameOf fitsK; simp [k8, kindsL])
    obtain ⟨A, hA⟩ : ∃ A, A = [99, 114, 97, 115, 104] ++ N := ⟨_, rfl⟩
    have lA : A.length ≤ 30 := by rw [hA]; simp; omega
    have z1 : ∀ M, rd (.str .add) [.string ⟨#[99, 114, 97, 115, 104]⟩, strV N] M = some (strV A) := hA ▸ rd_zk [99, 114, 97, 115, 104] N (by simp; omega)
    refine law29_line_go (by simp [Tryz.f33]) ?_
    have H := Hq.refl m []
    simp (disch := omega) only [go_sem, undef]
    refine newQ H fun sb M f H => ?_
    simp (disch := omega) only [go_sem, undef, H.cs]
    refine callQ H (itoa_s s.n hok.n (hG.fr H.fr)) fun M f H => ?_
    simp (disch := omega) only [go_sem, undef, H.cs, z0, z1, decide_eq_false k2, decide_eq_false k3, decide_eq_false k4, decide_eq_false k5, decide_eq_false k6, decide_eq_false k9, decide_eq_false k7, decide_eq_true k8]
    refine loopQ_intro (fun k E m' => ∃ (j : Nat) (x : List UInt8), j ≤ s.picks.length ∧ k = s.picks.length - j ∧ x = A ++ ((s.picks.take j).map Lib.itoa).flatMap (fun x => 32 :: x) ∧ x.length ≤ 100 + 30 * j ∧ E = [(1, .pointer (some ⟨sb, 0, none⟩)), (4, strV x), (5, .int .i64 (j : Nat))] ∧ Hq m m' [] [cellA sb (.cells (stc s a s.picks.length c).toArray T_api_Step (0, 0))]) s.picks.length rfl ⟨0, A, by omega, rfl, by simp, by omega, rfl, H⟩ ?_
    clear H
    rintro k E M1 ⟨j, x, hj, rfl, hx, hxl, rfl, H⟩
    by_cases hlt : j < s.picks.length
    · refine RdS.elK (hp.frame H.fr) hlt (by decide) fun bx o p hpx hix hE => ?_
      have hx0 : (ic p)[0]? = some (.int .i64 p) := rfl
      have hpi := hok.picks p (List.mem_of_getElem? hpx)
      have lp := itoa_le p hpi
      obtain ⟨y, hy⟩ : ∃ y, y = x ++ [32] := ⟨_, rfl⟩
      obtain ⟨w, hw⟩ : ∃ w, w = y ++ Lib.itoa p := ⟨_, rfl⟩
      have ly : y.length = x.length + 1 := by rw [hy]; simp
      have lw : w.length ≤ x.length + 22 := by rw [hw, List.length_append]; omega
      have z2 : ∀ M, rd (.str .add) [strV x, .string ⟨#[32]⟩] M = some (strV y) := hy ▸ rd_kz x [32] (by simp; omega)
      have z3 : ∀ M, rd (.str .add) [strV y, strV (Lib.itoa p)] M = some (strV w) := hw ▸ rd_zadd y (Lib.itoa p) (by omega)
      simp (disch := omega) only [go_sem, undef, dec_t (show ((j : Nat) : Int) < (s.picks.length : Nat) by omega), hix, hE.ld0, hx0, H.cs, z2]
      refine callQ H (itoa_s p hpi (hG.fr H.fr)) fun M f H => ?_
      simp (disch := omega) only [go_sem, undef, z3]
      have htk : s.picks.take (j + 1) = s.picks.take j ++ [p] := by rw [List.take_add_one, hpx]; rfl
      refine handN_intro (s.picks.length - (j + 1)) (by omega) ⟨j + 1, w, by omega, rfl, ?_, by omega, rfl, H⟩
      rw [htk, hw, hy, hx]; simp
    · have e : j = s.picks.length := by omega
      subst e
      simp (disch := omega) only [go_sem, undef, dec_f (show ¬ ((s.picks.length : Nat) : Int) < (s.picks.length : Nat) by omega), H.cs]
      exact ⟨by rw [hl, hx, hA, hN, List.take_length]; unfold restL numsL; rw [if_neg (by omega), if_neg (by omega), if_neg (by omega), if_pos k8]; simp, H.fr⟩
  by_cases k1 : s.kind = 1
  · obtain ⟨C, hC⟩ : ∃ C, C = 32 :: Lib.itoa s.client := ⟨_, rfl⟩
    obtain ⟨A, hA⟩ : ∃ A, A = C ++ N := ⟨_, rfl⟩
    obtain ⟨B, hB⟩ : ∃ B, B = A ++ [32] := ⟨_, rfl⟩
    obtain ⟨R, hR⟩ : ∃ R, R = B ++ wordL s.key := ⟨_, rfl⟩
    have lC : C.length ≤ 22 := by rw [hC, List.length_cons]; omega
    have lA : A.length ≤ 44 := by rw [hA, List.length_append]; omega
    have lB : B.length ≤ 45 := by rw [hB]; simp; omega
    have lR : R.length ≤ 20000 := by rw [hR, List.length_append]; omega
    have z1 : ∀ M, rd (.str .add) [.string ⟨#[32]⟩, strV (Lib.itoa s.client)] M = some (strV C) := hC ▸ rd_zk [32] _ (by simp; omega)
    have z2 : ∀ M, rd (.str .add) [strV C, strV N] M = some (strV A) := hA ▸ rd_zadd C N (by omega)
    have z3 : ∀ M, rd (.str .add) [strV A, .string ⟨#[32]⟩] M = some (strV B) := hB ▸ rd_kz A [32] (by simp; omega)
    have z4 : ∀ M, rd (.str .add) [strV B, strV (wordL s.key)] M = some (strV R) := hR ▸ rd_zadd B _ (by omega)
    have hRe : R = 32 :: Lib.itoa s.client ++ 32 :: Lib.itoa s.n ++ 32 :: wordL s.key := by rw [hR, hB, hA, hC, hN]; simp
    by_cases c1 : s.ck = 1
    · have hl := lineL_c (s := s) (nm := [103, 101, 116]) (by unfold nameOf fitsK; simp [k1, c1, kindsL]) k1
      have he : [103, 101, 116] ++ R = lineL s := by rw [hl, hRe]; unfold txtsL; simp [c1]
      refine law29_line_go (by simp [Tryz.f33]) ?_
      have H := Hq.refl m []
      simp (disch := omega) only [go_sem, undef]
      refine newQ H fun sb M f H => ?_
      simp (disch := omega) only [go_sem, undef, H.cs]
      refine callQ H (itoa_s s.n hok.n (hG.fr H.fr)) fun M f H => ?_
      simp (disch := omega) only [go_sem, undef, H.cs, z0, decide_eq_false k2, decide_eq_false k3, decide_eq_false k4, decide_eq_false k5, decide_eq_false k6, decide_eq_false k9, decide_eq_false k7, decide_eq_false k8, decide_eq_true k1]
      refine callQ H (itoa_s s.client hok.client (hG.fr H.fr)) fun M f H => ?_
      simp (disch := omega) only [go_sem, undef, H.cs, z1, z2, z3]
      refine callQ H (lword_s s.key (by omega) _) fun M f H => ?_
      simp (disch := omega) only [go_sem, undef, H.cs, z4, decide_eq_true c1, he ▸ rd_zk [103, 101, 116] R (by simp; omega)]
      exact ⟨rfl, H.fr⟩
    by_cases c2 : s.ck = 2
    · have hl := lineL_c (s := s) (nm := [112, 117, 116]) (by unfold nameOf fitsK; simp [k1, c2, kindsL]) k1
      obtain ⟨D, hD⟩ : ∃ D, D = [112, 117, 116] ++ R := ⟨_, rfl⟩
      obtain ⟨F, hF⟩ : ∃ F, F = D ++ [32] := ⟨_, rfl⟩
      have lD : D.length = R.length + 3 := by rw [hD]; simp <;> omega
      have lF : F.length = D.length + 1 := by rw [hF]; simp
      have he : F ++ wordL s.val = lineL s := by rw [hl, hF, hD, hRe]; unfold txtsL; simp [c2]
      refine law29_line_go (by simp [Tryz.f33]) ?_
      have H := Hq.refl m []
      simp (disch := omega) only [go_sem, undef]
      refine newQ H fun sb M f H => ?_
      simp (disch := omega) only [go_sem, undef, H.cs]
      refine callQ H (itoa_s s.n hok.n (hG.fr H.fr)) fun M f H => ?_
      simp (disch := omega) only [go_sem, undef, H.cs, z0, decide_eq_false k2, decide_eq_false k3, decide_eq_false k4, decide_eq_false k5, decide_eq_false k6, decide_eq_false k9, decide_eq_false k7, decide_eq_false k8, decide_eq_true k1]
      refine callQ H (itoa_s s.client hok.client (hG.fr H.fr)) fun M f H => ?_
      simp (disch := omega) only [go_sem, undef, H.cs, z1, z2, z3]
      refine callQ H (lword_s s.key (by omega) _) fun M f H => ?_
      simp (disch := omega) only [go_sem, undef, H.cs, z4, decide_eq_false c1, decide_eq_true c2, hD ▸ rd_zk [112, 117, 116] R (by simp; omega), hF ▸ rd_kz D [32] (by simp; omega)]
      refine callQ H (lword_s s.val (by omega) _) fun M f H => ?_
      simp (disch := omega) only [go_sem, undef, he ▸ rd_zadd F (wordL s.val) (by omega)]
      exact ⟨rfl, H.fr⟩
    by_cases c3 : s.ck = 3
    · have hl := lineL_c (s := s) (nm := [100, 101, 108]) (by unfold nameOf fitsK; simp [k1, c3, kindsL]) k1
      have he : [100, 101, 108] ++ R = lineL s := by rw [hl, hRe]; unfold txtsL; simp [c3]
      refine law29_line_go (by simp [Tryz.f33]) ?_
      have H := Hq.refl m []
      simp (disch := omega) only [go_sem, undef]
      refine newQ H fun sb M f H => ?_
      simp (disch := omega) only [go_sem, undef, H.cs]
      refine callQ H (itoa_s s.n hok.n (hG.fr H.fr)) fun M f H => ?_
      simp (disch := omega) only [go_sem, undef, H.cs, z0, decide_eq_false k2, decide_eq_false k3, decide_eq_false k4, decide_eq_false k5, decide_eq_false k6, decide_eq_false k9, decide_eq_false k7, decide_eq_false k8, decide_eq_true k1]
      refine callQ H (itoa_s s.client hok.client (hG.fr H.fr)) fun M f H => ?_
      simp (disch := omega) only [go_sem, undef, H.cs, z1, z2, z3]
      refine callQ H (lword_s s.key (by omega) _) fun M f H => ?_
      simp (disch := omega) only [go_sem, undef, H.cs, z4, decide_eq_false c1, decide_eq_false c2, decide_eq_true c3, he ▸ rd_zk [100, 101, 108] R (by simp; omega)]
      exact ⟨rfl, H.fr⟩
    by_cases c4 : s.ck = 4
    · have hl := lineL_c (s := s) (nm := [115, 119, 97, 112]) (by unfold nameOf fitsK; simp [k1, c4, kindsL]) k1
      obtain ⟨D, hD⟩ : ∃ D, D = [115, 119, 97, 112] ++ R := ⟨_, rfl⟩
      obtain ⟨F, hF⟩ : ∃ F, F = D ++ [32] := ⟨_, rfl⟩
      obtain ⟨G, hGG⟩ : ∃ G, G = F ++ wordL s.old := ⟨_, rfl⟩
      obtain ⟨K, hK⟩ : ∃ K, K = G ++ [32] := ⟨_, rfl⟩
      have lD : D.length = R.length + 4 := by rw [hD]; simp <;> omega
      have lF : F.length = D.length + 1 := by rw [hF]; simp
      have lG : G.length ≤ 50000 := by rw [hGG, List.length_append]; omega
      have lK : K.length = G.length + 1 := by rw [hK]; simp
      have he : K ++ wordL s.val = lineL s := by rw [hl, hK, hGG, hF, hD, hRe]; unfold txtsL; simp [c4]
      refine law29_line_go (by simp [Tryz.f33]) ?_
      have H := Hq.refl m []
      simp (disch := omega) only [go_sem, undef]
      refine newQ H fun sb M f H => ?_
      simp (disch := omega) only [go_sem, undef, H.cs]
      refine callQ H (itoa_s s.n hok.n (hG.fr H.fr)) fun M f H => ?_
      simp (disch := omega) only [go_sem, undef, H.cs, z0, decide_eq_false k2, decide_eq_false k3, decide_eq_false k4, decide_eq_false k5, decide_eq_false k6, decide_eq_false k9, decide_eq_false k7, decide_eq_false k8, decide_eq_true k1]
      refine callQ H (itoa_s s.client hok.client (hG.fr H.fr)) fun M f H => ?_
      simp (disch := omega) only [go_sem, undef, H.cs, z1, z2, z3]
      refine callQ H (lword_s s.key (by omega) _) fun M f H => ?_
      simp (disch := omega) only [go_sem, undef, H.cs, z4, decide_eq_false c1, decide_eq_false c2, decide_eq_false c3, decide_eq_true c4, hD ▸ rd_zk [115, 119, 97, 112] R (by simp; omega), hF ▸ rd_kz D [32] (by simp; omega)]
      refine callQ H (lword_s s.old (by omega) _) fun M f H => ?_
      simp (disch := omega) only [go_sem, undef, H.cs, hGG ▸ rd_zadd F (wordL s.old) (by omega), hK ▸ rd_kz G [32] (by simp; omega)]
      refine callQ H (lword_s s.val (by omega) _) fun M f H => ?_
      simp (disch := omega) only [go_sem, undef, he ▸ rd_zadd K (wordL s.val) (by omega)]
      exact ⟨rfl, H.fr⟩
    by_cases c5 : s.ck = 5
    · have hl := lineL_c (s := s) (nm := [114, 97, 110, 103, 101]) (by unfold nameOf fitsK; simp [k1, c5, kindsL]) k1
      obtain ⟨D, hD⟩ : ∃ D, D = [114, 97, 110, 103, 101] ++ R := ⟨_, rfl⟩
      obtain ⟨F, hF⟩ : ∃ F, F = D ++ [32] := ⟨_, rfl⟩
      have lD : D.length = R.length + 5 := by rw [hD]; simp <;> omega
      have lF : F.length = D.length + 1 := by rw [hF]; simp
      have he : F ++ wordL s.fin = lineL s := by rw [hl, hF, hD, hRe]; unfold txtsL; simp [c5]
      refine law29_line_go (by simp [Tryz.f33]) ?_
      have H := Hq.refl m []
      simp (disch := omega) only [go_sem, undef]
      refine newQ H fun sb M f H => ?_
      simp (disch := omega) only [go_sem, undef, H.cs]
      refine callQ H (itoa_s s.n hok.n (hG.fr H.fr)) fun M f H => ?_
      simp (disch := omega) only [go_sem, undef, H.cs, z0, decide_eq_false k2, decide_eq_false k3, decide_eq_false k4, decide_eq_false k5, decide_eq_false k6, decide_eq_false k9, decide_eq_false k7, decide_eq_false k8, decide_eq_true k1]
      refine callQ H (itoa_s s.client hok.client (hG.fr H.fr)) fun M f H => ?_
      simp (disch := omega) only [go_sem, undef, H.cs, z1, z2, z3]
      refine callQ H (lword_s s.key (by omega) _) fun M f H => ?_
      simp (disch := omega) only [go_sem, undef, H.cs, z4, decide_eq_false c1, decide_eq_false c2, decide_eq_false c3, decide_eq_false c4, decide_eq_true c5, hD ▸ rd_zk [114, 97, 110, 103, 101] R (by simp; omega), hF ▸ rd_kz D [32] (by simp; omega)]
      refine callQ H (lword_s s.fin (by omega) _) fun M f H => ?_
      simp (disch := omega) only [go_sem, undef, he ▸ rd_zadd F (wordL s.fin) (by omega)]
      exact ⟨rfl, H.fr⟩
    · have hl : lineL s = [] := by
        have : nameOf s = none := by unfold nameOf fitsK; simp [kindsL, k1]; omega
        unfold lineL; rw [this]
      refine law29_line_go (by simp [Tryz.f33]) ?_
      have H := Hq.refl m []
      simp (disch := omega) only [go_sem, undef]
      refine newQ H fun sb M f H => ?_
      simp (disch := omega) only [go_sem, undef, H.cs]
      refine callQ H (itoa_s s.n hok.n (hG.fr H.fr)) fun M f H => ?_
      simp (disch := omega) only [go_sem, undef, H.cs, z0, decide_eq_false k2, decide_eq_false k3, decide_eq_false k4, decide_eq_false k5, decide_eq_false k6, decide_eq_false k9, decide_eq_false k7, decide_eq_false k8, decide_eq_true k1]
      refine callQ H (itoa_s s.client hok.client (hG.fr H.fr)) fun M f H => ?_
      simp (disch := omega) only [go_sem, undef, H.cs, z1, z2, z3]
      refine callQ H (lword_s s.key (by omega) _) fun M f H => ?_
      simp (disch := omega) only [go_sem, undef, H.cs, z4, decide_eq_false c1, decide_eq_false c2, decide_eq_false c3, decide_eq_false c4, decide_eq_false c5]
      exact ⟨by rw [hl]; rfl, H.fr⟩
  · have hl : lineL s = [] := by
      have : nameOf s = none := by unfold nameOf fitsK; simp [kindsL]; omega
      unfold lineL; rw [this]
    refine law29_line_go (by simp [Tryz.f33]) ?_
    have H := Hq.refl m []
    simp (disch := omega) only [go_sem, undef]
    refine newQ H fun sb M f H => ?_
    simp (disch := omega) only [go_sem, undef, H.cs]
    refine callQ H (itoa_s s.n hok.n (hG.fr H.fr)) fun M f H => ?_
    simp (disch := omega) only [go_sem, undef, H.cs, z0, decide_eq_false k2, decide_eq_false k3, decide_eq_false k4, decide_eq_false k5, decide_eq_false k6, decide_eq_false k9, decide_eq_false k7, decide_eq_false k8, decide_eq_false k1]
    exact ⟨by rw [hl]; rfl, H.fr⟩
end Go.Fw
