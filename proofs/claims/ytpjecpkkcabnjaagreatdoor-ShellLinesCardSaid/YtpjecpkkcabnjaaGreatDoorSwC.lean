import Derived.Test.YtpjecpkkcabnjaaGreatDoorSwB
import Derived.Lib.Bytealg
set_option linter.unusedVariables false
set_option linter.unusedSimpArgs false
/-! strings.Split at blanks. -/
namespace Go.Fw
open Go.Proofs Go.Sh
variable {m m0 M : Mem} {S : List Nat} {L : List As}
def sc (l : List UInt8) : List Value := [strV l]
theorem sc_len (l : List UInt8) : (sc l).length = 1 := rfl
abbrev stA (w : Value) (ls : List (List UInt8)) : As := ownA T_string 1 w ls.length (ls.flatMap sc)
theorem sc_map (ls : List (List UInt8)) : ls.flatMap sc = ls.map strV := by
  induction ls with
  | nil => rfl
  | cons a l ih => rw [List.flatMap_cons, ih]; rfl
theorem stA_rd {v : Value} {ls : List (List UInt8)} (h : (stA v ls).p m) : RdS 1 sc m v ls := Own.rds (by omega) sc_len h
/-! in plain words -/
theorem splitS_ne (r : List UInt8) : splitS r ≠ [] := by
  cases r with
  | nil => simp [splitS]
  | cons c r => simp only [splitS]; split; simp; split <;> simp
theorem splitS_len (r : List UInt8) : ∀ n : Int, r.foldl (fun (n : Int) x => if x == (32 : UInt8) then n + 1 else n) n + 1 = n + (splitS r).length := by
  induction r with
  | nil => intro n; simp [splitS]
  | cons c r ih =>
    intro n
    rw [List.foldl_cons, ih]
    simp only [splitS]
    by_cases h : c = 32
    · simp [h]; omega
    · simp only [h, beq_iff_eq, if_false]
      have := splitS_ne r
      cases hs : splitS r with
      | nil => exact (this hs).elim
      | cons a l => simp
theorem splitS_le (r : List UInt8) : (splitS r).length ≤ r.length + 1 := by
  induction r with
  | nil => simp [splitS]
  | cons c r ih =>
    simp only [splitS, List.length_cons]
    split
    · simp only [List.length_cons]; omega
    · cases hs : splitS r with
      | nil => simp
      | cons a l => rw [hs] at ih; simp only [List.length_cons] at *; omega
/-- the next blank: the first word, and what is behind it -/
theorem split_next (r : List UInt8) (h : 2 ≤ (splitS r).length) : ∃ w r', r = w ++ 32 :: r' ∧ NoSp w ∧ splitS r = w :: splitS r' ∧ Lib.indexByte r 32 = (w.length : Nat) := by
  induction r with
  | nil => simp [splitS] at h
  | cons c r ih =>
    by_cases hc : c = 32
    · subst hc
      exact ⟨[], r, rfl, (fun _ h => nomatch h), by simp [splitS], by simp [Lib.indexByte]⟩
    · have h2 : 2 ≤ (splitS r).length := by
        simp only [splitS, hc, if_false] at h
        cases hs : splitS r with
        | nil => exact (splitS_ne r hs).elim
        | cons a l => rw [hs] at h; simpa using h
      obtain ⟨w, r', rfl, hw, hs, hi⟩ := ih h2
      refine ⟨c :: w, r', rfl, ?_, ?_, ?_⟩
      · intro x hx
        rcases List.mem_cons.1 hx with rfl | hx
        · exact hc
        · exact hw x hx
      · simp only [splitS, hc, if_false, hs]
      · unfold Lib.indexByte
        rw [if_neg (by simpa using hc), hi, if_neg (by simp only [beq_iff_eq]; omega)]
        rw [List.length_cons]; omega
theorem zb_ext (l : List UInt8) (a b : Nat) : (zb l).extract a b = zb ((l.take b).drop a) := by
  apply ByteArray.ext
  simp [zb, ByteArray.data_extract, List.extract_toArray, List.drop_take]
theorem rd_slcs_hi {l : List UInt8} {i : Int} {n : Nat} (hi : i = (n : Nat)) (hn : n ≤ l.length) (m : Mem) : rd (.slcs false true) [strV l, .int .i64 i] m = some (strV (l.take n)) := by
  subst hi
  show (cutB (zb l) 0 (n : Nat)).map Value.string = _
  unfold cutB
  rw [if_pos (by rw [zb_size]; omega)]
  show some (Value.string ((zb l).extract 0 _)) = _
  rw [Int.toNat_natCast, zb_ext]; simp
theorem rd_slcs_lo {l : List UInt8} {i : Int} {n : Nat} (hi : i = (n : Nat)) (hn : n ≤ l.length) (m : Mem) : rd (.slcs true false) [strV l, .int .i64 i] m = some (strV (l.drop n)) := by
  subst hi
  show (cutB (zb l) (n : Nat) ((zb l).size : Nat)).map Value.string = _
  unfold cutB
  rw [if_pos (by rw [zb_size]; omega)]
  show some (Value.string ((zb l).extract _ _)) = _
  rw [Int.toNat_natCast, Int.toNat_natCast, zb_size, zb_ext, List.take_length]
theorem split_one (r : List UInt8) (h : (splitS r).length = 1) : splitS r = [r] := by
  induction r with
  | nil => rfl
  | cons c r ih =>
    by_cases hc : c = 32
    · subst hc
      have := splitS_ne r
      simp only [splitS, if_true, List.length_cons] at h
      cases hs : splitS r with
      | nil => exact (this hs).elim
      | cons a l => rw [hs] at h; simp at h
    · simp only [splitS, hc, if_false] at h ⊢
      have hr : (splitS r).length = 1 := by
        cases hs : splitS r with
        | nil => exact (splitS_ne r hs).elim
        | cons a l => rw [hs] at h; simpa using h
      rw [ih hr]
theorem row_set {d : List (List UInt8)} {j N : Nat} {w : List UInt8} {z : Value} (hd : d.length = j) (hj : j < N) : (d.map strV ++ List.replicate (N - j) z).set j (strV w) = (d ++ [w]).map strV ++ List.replicate (N - (j + 1)) z := by
  have : N - j = (N - (j + 1)) + 1 := by omega
  rw [this, List.replicate_succ, List.set_append_right _ _ (by simp [hd])]
  simp [hd]
theorem cn_end {A : As} (H : Hq m M [] (A :: L)) (hf : A.fp = A.wp) : A.p M ∧ Fr m M [] ∧ ∀ b ∈ A.fp, m b = none :=
  ⟨H.hs.1, H.fr, fun b hb => (H.nw A (List.mem_cons_self ..) b (hf ▸ hb)).resolve_right (by simp)⟩
/-! the walk -/
abbrev spB : ByteArray := ⟨#[32]⟩
theorem sp_sz : ((ByteArray.size ⟨#[32]⟩ : Nat) : Int) = 1 := rfl
theorem sp_at : (⟨#[32]⟩ : ByteArray)[0]? = some 32 := rfl
theorem d10 : decide ((1 : Int) = 0) = false := rfl
theorem d11 : decide ((1 : Int) = 1) = true := rfl
theorem count_s (l : List UInt8) (hl : l.length ≤ 1000000) (m : Mem) : MC Tryz.prog n_strings_Count [strV l, .string spB] m fun v m' => v = .int .i64 ((splitS l).length - 1 : Int) ∧ Fr m m' [] := by
  refine strings_Count_go (by simp [Tryz.f33]) ?_
  have H := Hq.refl m []
  have h : rd .cnt [strV l, .int .u8 ((32 : UInt8).toNat : Nat)] m = some (.int .i64 ((splitS l).length - 1 : Int)) := by
    have := splitS_len l 0
    simp only [rd, rdp, rdm, RO.reads, cntB, Lib.foldl_data]
    show some (Value.int .i64 (l.foldl (fun (n : Int) x => if x == (32 : UInt8) then n + 1 else n) 0)) = _
    congr 2; omega
  simp (disch := omega) only [go_sem, undef, sp_sz, sp_at, h, d10, d11]
  exact ⟨rfl, H.fr⟩
theorem index_s (l : List UInt8) (m : Mem) : MC Tryz.prog n_strings_Index [strV l, .string spB] m fun v m' => v = .int .i64 (Lib.indexByte l 32) ∧ Fr m m' [] := by
  refine strings_Index_go (by simp [Tryz.f33]) ?_
  have H := Hq.refl m []
  simp (disch := omega) only [go_sem, undef]
  have h1 : MC Tryz.prog n_internal_stringslite_IndexByte [strV l, .int .u8 ((32 : UInt8).toNat : Nat)] m fun v m' => v = .int .i64 (Lib.indexByte l 32) ∧ Fr m m' [] := by
    have h := rd_ixb (zb l) 32 m
    rw [Lib.firstIdx_eq] at h
    refine internal_stringslite_IndexByte_go (by simp [Tryz.f33]) ?_
    simp (disch := omega) only [go_sem, undef, h]
    exact ⟨rfl, H.fr⟩
  have h : MC Tryz.prog n_internal_stringslite_Index [strV l, .string spB] m fun v m' => v = .int .i64 (Lib.indexByte l 32) ∧ Fr m m' [] := by
    refine internal_stringslite_Index_go (by simp [Tryz.f33]) ?_
    by_cases he : spB = zb l
    · have hl : l = [32] := by
        have := congrArg (fun z => z.data.toList) he
        simpa [zb] using this.symm
      subst hl
      simp (disch := omega) only [go_sem, undef, sp_sz, sp_at, d10, d11, decide_eq_true he]
      exact ⟨rfl, H.fr⟩
    · simp (disch := omega) only [go_sem, undef, sp_sz, sp_at, d10, d11, decide_eq_false he]
      refine callQ H h1 fun M f H => ?_
      simp (disch := omega) only [go_sem, undef]
      exact ⟨rfl, H.fr⟩
  refine callQ H h fun M f H => ?_
  simp (disch := omega) only [go_sem, undef]
  exact ⟨rfl, H.fr⟩
set_option maxHeartbeats 1000000 in
theorem gsplit_s (l : List UInt8) (hl : l.length ≤ 1000000) (m : Mem) : CN Tryz.prog n_strings_genSplit [strV l, .string spB, .int .i64 0, .int .i64 (-1)] m fun v A => A = stA v (splitS l) := by
  refine strings_genSplit_go (by simp [Tryz.f33]) ?_
  have H := Hq.refl m []
  have hN : (splitS l).length ≤ l.length + 1 := splitS_le l
  have hN1 : 1 ≤ (splitS l).length := by
    have := splitS_ne l
    cases hs : splitS l with
    | nil => exact (this hs).elim
    | cons a r => simp
  generalize hNN : (splitS l).length = N at *
  simp (disch := omega) only [go_sem, undef, sp_sz, show decide (spB = (⟨#[]⟩ : ByteArray)) = false from rfl, dec_t (show (-1 : Int) < 0 by decide)]
  refine callQ H (hNN ▸ count_s l hl m) fun M f H => ?_
  simp (disch := omega) only [go_sem, undef, rd_lenz_zb, rd_mn, show min ((N : Nat) - 1 + 1 : Int) ((l.length : Nat) + 1) = (N : Nat) from by omega]
  refine newQ H fun b M f H => ?_
  simp (disch := omega) only [go_sem, undef]
  refine loopQ_intro (fun k E m' => ∃ (j : Nat) (d : List (List UInt8)) (r : List UInt8), k = N - j ∧ d.length = j ∧ j < N ∧ splitS l = d ++ splitS r ∧ r.length ≤ l.length ∧ E = [(0, strV r), (1, .string spB), (2, .int .i64 0), (3, .int .i64 ((N : Nat) - 1)), (9, .slice (some ⟨b, 0, none⟩) N N), (10, .int .i64 (j : Nat))] ∧ Hq m m' [] [cellA b (.cells (d.map strV ++ List.replicate (N - j) (Value.string ⟨#[]⟩)).toArray T_string (0, 0))]) N rfl ⟨0, [], l, by omega, rfl, by omega, rfl, by omega, rfl, ?_⟩ ?_
  · rw [List.map_nil, List.nil_append, Nat.sub_zero]
    have : (List.replicate N [Value.string ⟨#[]⟩]).flatten = List.replicate N (Value.string ⟨#[]⟩) := by simp
    rw [this] at H
    exact H
  clear H f
  rintro k E M1 ⟨j, d, r, rfl, hd, hj, hs, hr, rfl, H⟩
  have hlen : N = j + (splitS r).length := by rw [← hNN, hs, List.length_append, hd]
  have hset := fun w => row_set (w := w) (z := Value.string ⟨#[]⟩) hd hj
  have hXl : (d.map strV ++ List.replicate (N - j) (Value.string ⟨#[]⟩)).length = N := by simp; omega
  generalize d.map strV ++ List.replicate (N - j) (Value.string ⟨#[]⟩) = X at H hset hXl
  by_cases hlt : j + 1 < N
  · obtain ⟨w, r', rfl, hw, hs2, hi⟩ := split_next r (by omega)
    have hdr : (w ++ 32 :: r').drop (w.length + 1) = r' := by rw [List.drop_append]; simp [List.drop_eq_nil_of_le]
    have hrl : (w ++ 32 :: r').length = w.length + r'.length + 1 := by simp; omega
    simp (disch := omega) only [go_sem, undef, dec_t (show ((j : Nat) : Int) < (N : Nat) - 1 by omega)]
    refine callQ H (hi ▸ index_s _ M1) fun M f H => ?_
    simp (disch := omega) only [go_sem, undef, sp_sz, dec_f (show ¬ ((w.length : Nat) : Int) < 0 by omega), rd_slcs_hi (l := w ++ 32 :: r') (i := (w.length : Nat) + 0) (n := w.length) (by omega) (by omega), rd_slcs_lo (l := w ++ 32 :: r') (i := (w.length : Nat) + 1) (n := w.length + 1) rfl (by omega), H.cs, List.take_left, hdr]
    refine wrQ0 H fun M f H => ?_
    simp (disch := omega) only [go_sem, undef, sp_sz, dec_f (show ¬ ((w.length : Nat) : Int) < 0 by omega), rd_slcs_lo (l := w ++ 32 :: r') (i := (w.length : Nat) + 1) (n := w.length + 1) rfl (by omega), hdr]
    rw [hset] at H
    exact handN_intro (N - (j + 1)) (by omega) ⟨j + 1, d ++ [w], r', rfl, by simp [hd], by omega, by rw [hs, hs2, List.append_assoc]; rfl, by omega, rfl, H⟩
  · have hr1 : splitS r = [r] := by
      have h1 : (splitS r).length = 1 := by
        have := splitS_ne r
        cases hq : splitS r with
        | nil => exact (this hq).elim
        | cons a q => rw [hq] at hlen; simp only [List.length_cons] at *; omega
      exact split_one r h1
    simp (disch := omega) only [go_sem, undef, dec_f (show ¬ ((j : Nat) : Int) < (N : Nat) - 1 by omega), H.cs]
    refine wrQ0 H fun M f H => ?_
    simp (disch := omega) only [go_sem, undef]
    rw [hset, show N - (j + 1) = 0 by omega, List.replicate_zero] at H
    rw [show d ++ [r] = splitS l from by rw [hs, hr1]] at H
    have H := Hq.ofCell (size := 1) (n := N) (cap := N) (xs := (splitS l).map strV) (tail := []) H (by simp [hNN]) (by simp [hNN])
    rw [← sc_map, show N = (splitS l).length from hNN.symm] at H
    rw [show ((j : Nat) + 1 : Int).toNat = (splitS l).length by omega, show N = (splitS l).length from hNN.symm]
    exact ⟨_, rfl, cn_end H rfl⟩
theorem split_s (l : List UInt8) (hl : l.length ≤ 1000000) (m : Mem) : CN Tryz.prog n_strings_Split [strV l, .string spB] m fun v A => A = stA v (splitS l) := by
  refine strings_Split_go (by simp [Tryz.f33]) ?_
  have H := Hq.refl m []
  simp (disch := omega) only [go_sem, undef]
  refine callN H (gsplit_s l hl m) fun v M A hA f H => ?_
  subst hA
  simp (disch := omega) only [go_sem, undef]
  exact ⟨_, rfl, cn_end H rfl⟩
end Go.Fw
