import Derived.Test.YtbbiiodadoeflaaGreatDoorWa
import Derived.Test.YtbbiiodadoeflaaGreatDoorCdL
import Derived.Test.YtbbiiodadoeflaaGreatDoorCd
set_option linter.unusedVariables false
set_option linter.unusedSimpArgs false
namespace Go.Fw
open Go.Proofs
variable {m m0 M : Mem} {S : List Nat} {L : List As}
/-- bytes as a string -/
def zb (l : Bs) : ByteArray := ⟨l.toArray⟩
theorem zb_size (l : Bs) : (zb l).size = l.length := rfl
theorem zb_app (a b : Bs) : zb a ++ zb b = zb (a ++ b) := by
  apply ByteArray.ext; simp [zb, ByteArray.data_append]
theorem zb_inj {a b : Bs} : zb a = zb b ↔ a = b := by
  constructor
  · intro h
    have := congrArg (fun z => z.data.toList) h
    simpa [zb] using this
  · rintro rfl; rfl
theorem zb_cut (l : Bs) (lo hi : Nat) (h : lo ≤ hi) (h2 : hi ≤ l.length) : cutZ (zb l) lo hi = some (.string (zb ((l.take hi).drop lo))) := by
  unfold cutZ cutB
  rw [if_pos ⟨by omega, by omega, by rw [zb_size]; omega⟩]
  simp only [Option.map_some, Int.toNat_natCast]
  congr 2
  apply ByteArray.ext
  simp [zb, ByteArray.data_extract, List.extract_toArray, List.drop_take]
theorem rd_slcs11 (l : Bs) (k k' : IntKind) (lo hi : Int) : rd (.slcs true true) [.string (zb l), .int k lo, .int k' hi] m = cutZ (zb l) lo hi := rfl
theorem rd_slcs10 (l : Bs) (k : IntKind) (lo : Int) : rd (.slcs true false) [.string (zb l), .int k lo] m = cutZ (zb l) lo (zb l).size := rfl
theorem rd_slcs01 (l : Bs) (k : IntKind) (hi : Int) : rd (.slcs false true) [.string (zb l), .int k hi] m = cutZ (zb l) 0 hi := rfl
theorem rd_zadd (a b : Bs) (h : a.length + b.length ≤ 9223372036854775807) : rd (.str .add) [.string (zb a), .string (zb b)] m = some (.string (zb (a ++ b))) := by
  show (if (zb a).size + (zb b).size ≤ 9223372036854775807 then some (Value.string (zb a ++ zb b)) else none) = _
  rw [if_pos (by simpa [zb_size] using h), zb_app]
theorem zb_get (l : Bs) (i : Nat) : (zb l)[i]? = l[i]? := by
  show (if h : i < (zb l).size then some _ else none) = _
  by_cases h : i < l.length
  · rw [dif_pos (by simpa [zb_size] using h), List.getElem?_eq_getElem h]; rfl
  · rw [dif_neg (by simpa [zb_size] using h), List.getElem?_eq_none (by omega)]
/-- the digits of a number below a hundred -/
def dg (n : Nat) : Bs := if n < 10 then [UInt8.ofNat (48 + n)] else [UInt8.ofNat (48 + n / 10), UInt8.ofNat (48 + n % 10)]
theorem dg_len (n : Nat) : 0 < (dg n).length ∧ (dg n).length ≤ 2 := by unfold dg; split <;> simp
def smallD : Bs := [48, 49, 50, 51, 52, 53, 54, 55, 56, 57, 97, 98, 99, 100, 101, 102, 103, 104, 105, 106, 107, 108, 109, 110, 111, 112, 113, 114, 115, 116, 117, 118, 119, 120, 121, 122]
def smallH : Bs := (List.range 100).flatMap fun n => [UInt8.ofNat (48 + n / 10), UInt8.ofNat (48 + n % 10)]
theorem smallD_eq : (⟨#[48, 49, 50, 51, 52, 53, 54, 55, 56, 57, 97, 98, 99, 100, 101, 102, 103, 104, 105, 106, 107, 108, 109, 110, 111, 112, 113, 114, 115, 116, 117, 118, 119, 120, 121, 122]⟩ : ByteArray) = zb smallD := rfl
theorem smallH_eq : (⟨#[48, 48, 48, 49, 48, 50, 48, 51, 48, 52, 48, 53, 48, 54, 48, 55, 48, 56, 48, 57, 49, 48, 49, 49, 49, 50, 49, 51, 49, 52, 49, 53, 49, 54, 49, 55, 49, 56, 49, 57, 50, 48, 50, 49, 50, 50, 50, 51, 50, 52, 50, 53, 50, 54, 50, 55, 50, 56, 50, 57, 51, 48, 51, 49, 51, 50, 51, 51, 51, 52, 51, 53, 51, 54, 51, 55, 51, 56, 51, 57, 52, 48, 52, 49, 52, 50, 52, 51, 52, 52, 52, 53, 52, 54, 52, 55, 52, 56, 52, 57, 53, 48, 53, 49, 53, 50, 53, 51, 53, 52, 53, 53, 53, 54, 53, 55, 53, 56, 53, 57, 54, 48, 54, 49, 54, 50, 54, 51, 54, 52, 54, 53, 54, 54, 54, 55, 54, 56, 54, 57, 55, 48, 55, 49, 55, 50, 55, 51, 55, 52, 55, 53, 55, 54, 55, 55, 55, 56, 55, 57, 56, 48, 56, 49, 56, 50, 56, 51, 56, 52, 56, 53, 56, 54, 56, 55, 56, 56, 56, 57, 57, 48, 57, 49, 57, 50, 57, 51, 57, 52, 57, 53, 57, 54, 57, 55, 57, 56, 57, 57]⟩ : ByteArray) = zb smallH := by decide +kernel
theorem smallD_cut : ∀ n, n < 10 → (smallD.take (n + 1)).drop n = dg n := by decide +kernel
theorem smallH_cut : ∀ n, n < 100 → 10 ≤ n → (smallH.take (2 * n + 2)).drop (2 * n) = dg n := by decide +kernel
theorem small_s (n : Nat) (h : n < 100) : MC Tryz.prog n_internal_strconv_small [.int .i64 (n : Int)] m fun u M => u = .string (zb (dg n)) ∧ Fr m M [] := by
  refine internal_strconv_small_go (by simp [Tryz.f33]) ?_
  simp (disch := omega) only [go_sem, undef, smallD_eq, smallH_eq]
  refine condB_dec (fun h1 => ?_) (fun h1 => ?_)
  · have e : cutZ (zb smallD) (n : Int) ((n : Int) + 1) = some (.string (zb (dg n))) := by
      rw [show (n : Int) + 1 = ((n + 1 : Nat) : Int) from rfl, zb_cut _ _ _ (by omega) (by show _ ≤ 36; omega), smallD_cut n (by omega)]
    simp (disch := omega) only [go_sem, undef, smallD_eq, rd_slcs11, e]
    exact ⟨rfl, Fr.refl _ _⟩
  · have e : cutZ (zb smallH) ((n : Int) * 2) ((n : Int) * 2 + 2) = some (.string (zb (dg n))) := by
      rw [show (n : Int) * 2 + 2 = ((2 * n + 2 : Nat) : Int) from by omega, show (n : Int) * 2 = ((2 * n : Nat) : Int) from by omega, zb_cut _ _ _ (by omega) (by rw [show smallH.length = 200 from by decide +kernel]; omega), smallH_cut n h (by omega)]
    simp (disch := omega) only [go_sem, undef, smallH_eq, rd_slcs11, e]
    exact ⟨rfl, Fr.refl _ _⟩
theorem formatInt_s (n : Nat) (h : n < 100) : MC Tryz.prog n_internal_strconv_FormatInt [.int .i64 (n : Int), .int .i64 10] m fun u M => u = .string (zb (dg n)) ∧ Fr m M [] := by
  refine internal_strconv_FormatInt_go (by simp [Tryz.f33]) ?_
  have H := Hq.refl m []
  simp (disch := omega) only [go_sem, undef, dec_t (show (0 : Int) ≤ (n : Nat) by omega), dec_t (show ((n : Nat) : Int) < 100 by omega)]
  refine callQ H (small_s n h) fun M f H => ?_
  simp (disch := omega) only [go_sem, undef]
  exact ⟨rfl, H.fr⟩
theorem itoa0_s (n : Nat) (h : n < 100) : MC Tryz.prog n_internal_strconv_Itoa [.int .i64 (n : Int)] m fun u M => u = .string (zb (dg n)) ∧ Fr m M [] := by
  refine internal_strconv_Itoa_go (by simp [Tryz.f33]) ?_
  have H := Hq.refl m []
  simp (disch := omega) only [go_sem, undef]
  refine callQ H (formatInt_s n h) fun M f H => ?_
  simp (disch := omega) only [go_sem, undef]
  exact ⟨rfl, H.fr⟩
theorem itoa_s (n : Nat) (h : n < 100) : MC Tryz.prog n_strconv_Itoa [.int .i64 (n : Int)] m fun u M => u = .string (zb (dg n)) ∧ Fr m M [] := by
  refine strconv_Itoa_go (by simp [Tryz.f33]) ?_
  have H := Hq.refl m []
  simp (disch := omega) only [go_sem, undef]
  refine callQ H (itoa0_s n h) fun M f H => ?_
  simp (disch := omega) only [go_sem, undef]
  exact ⟨rfl, H.fr⟩
def nmB (g k : Nat) : Bs := [108, 111, 103, 46] ++ (dg g ++ 46 :: dg k)
theorem log_eq : (⟨#[108, 111, 103, 46]⟩ : ByteArray) = zb [108, 111, 103, 46] := rfl
theorem dot_eq : (⟨#[46]⟩ : ByteArray) = zb [46] := rfl
theorem name_s (g k : Nat) (hg : g < 100) (hk : k < 100) : MC Tryz.prog n_wal_place_name [.agg #[.int .i64 (g : Int), .int .i64 (k : Int)]] m fun u M => u = .string (zb (nmB g k)) ∧ Fr m M [] := by
  refine wal_place_name_go (by simp [Tryz.f33]) ?_
  have H := Hq.refl m []
  simp (disch := omega) only [go_sem, undef]
  refine newQ H fun b M f H => ?_
  simp (disch := omega) only [go_sem, undef, H.cs]
  refine callQ H (itoa_s g hg) fun M f H => ?_
  have h1 := dg_len g
  have h2 := dg_len k
  simp (disch := omega) only [go_sem, undef, H.cs, log_eq, dot_eq, rd_zadd [108, 111, 103, 46] (dg g) (by simp; omega), rd_zadd (108 :: 111 :: 103 :: 46 :: dg g) [46] (by simp; omega)]
  refine callQ H (itoa_s k hk) fun M f H => ?_
  simp (disch := omega) only [go_sem, undef, H.cs, rd_zadd (108 :: 111 :: 103 :: 46 :: (dg g ++ [46])) (dg k) (by simp; omega)]
  exact ⟨by simp [nmB], H.fr⟩
/-! reading a name -/
theorem firstIdx_at (a b : Bs) (c : UInt8) (h : c ∉ a) : firstIdx (zb (a ++ c :: b)) c = a.length := by
  have hx : (List.range (zb (a ++ c :: b)).size).find? (fun i => (zb (a ++ c :: b))[i]! == c) = some a.length := by
    rw [List.find?_range_eq_some]
    have hg : ∀ i, i < (a ++ c :: b).length → (zb (a ++ c :: b))[i]! = (a ++ c :: b)[i]! := by
      intro i hi
      have := zb_get (a ++ c :: b) i
      rw [getElem!_def, getElem!_def, this]
    refine ⟨?_, ?_, ?_⟩
    · rw [hg _ (by simp)]; simp
    · rw [List.mem_range, zb_size]; simp
    · intro j hj
      rw [hg _ (by simp; omega)]
      have : (a ++ c :: b)[j]! = a[j] := by
        rw [getElem!_def, List.getElem?_append_left hj, List.getElem?_eq_getElem hj]
      rw [this]
      simp only [Bool.not_eq_eq_eq_not, Bool.not_true, beq_eq_false_iff_ne]
      intro e
      exact h (e ▸ List.getElem_mem hj)
  unfold firstIdx
  rw [hx]
theorem rd_ixb_at (a b : Bs) (c : UInt8) (h : c ∉ a) : rd .ixb [.string (zb (a ++ c :: b)), .int .u8 (c.toNat : Nat)] m = some (.int .i64 (a.length : Nat)) := by
  show some (Value.int .i64 (firstIdx _ ((c.toNat : Nat) : Int).toNat.toUInt8)) = _
  rw [Int.toNat_natCast, show c.toNat.toUInt8 = c from by simp, firstIdx_at a b c h]
theorem indexByte_s (a b : Bs) (c : UInt8) (h : c ∉ a) : MC Tryz.prog n_internal_stringslite_IndexByte [.string (zb (a ++ c :: b)), .int .u8 (c.toNat : Nat)] m fun u M => u = .int .i64 (a.length : Nat) ∧ Fr m M [] := by
  refine internal_stringslite_IndexByte_go (by simp [Tryz.f33]) ?_
  simp (disch := omega) only [go_sem, undef, rd_ixb_at a b c h]
  exact ⟨rfl, Fr.refl _ _⟩
theorem index_s (a b : Bs) (c : UInt8) (h : c ∉ a) (ha : 0 < a.length) : MC Tryz.prog n_internal_stringslite_Index [.string (zb (a ++ c :: b)), .string (zb [c])] m fun u M => u = .int .i64 (a.length : Nat) ∧ Fr m M [] := by
  refine internal_stringslite_Index_go (by simp [Tryz.f33]) ?_
  have H := Hq.refl m []
  have hs : (((zb [c]).size : Nat) : Int) = 1 := rfl
  have hx : ∀ M, rd .idxs [.string (zb [c]), .int .i64 0] M = some (.int .u8 (c.toNat : Nat)) := fun M => by
    rw [rd_idxs _ _ _ (by omega), show (0 : Int).toNat = 0 from rfl, zb_get]; rfl
  have hne : ¬ zb [c] = zb (a ++ c :: b) := fun e => by
    have := congrArg List.length (zb_inj.1 e)
    simp at this; omega
  simp (disch := omega) only [go_sem, undef, hs, hx, dec_f (show ¬ (1 : Int) = 0 by omega), dec_f hne]
  refine callQ H (indexByte_s a b c h) fun M f H => ?_
  simp (disch := omega) only [go_sem, undef]
  exact ⟨rfl, H.fr⟩
theorem cut0_s (a b : Bs) (c : UInt8) (h : c ∉ a) (ha : 0 < a.length) (hl : a.length + b.length ≤ 1000000) : MC Tryz.prog n_internal_stringslite_Cut [.string (zb (a ++ c :: b)), .string (zb [c])] m fun u M => u = .tuple #[.string (zb a), .string (zb b), .bool true] ∧ Fr m M [] := by
  refine internal_stringslite_Cut_go (by simp [Tryz.f33]) ?_
  have H := Hq.refl m []
  have hs : (((zb [c]).size : Nat) : Int) = 1 := rfl
  have hs2 : (((zb (a ++ c :: b)).size : Nat) : Int) = ((a.length + 1 + b.length : Nat) : Int) := by rw [zb_size]; simp; omega
  have h1 : cutZ (zb (a ++ c :: b)) 0 (a.length : Nat) = some (.string (zb a)) := by
    have := zb_cut (a ++ c :: b) 0 a.length (by omega) (by simp)
    rw [List.take_left, List.drop_zero] at this; exact this
  have h2 : cutZ (zb (a ++ c :: b)) ((a.length : Nat) + 1) ((a.length + 1 + b.length : Nat) : Int) = some (.string (zb b)) := by
    have := zb_cut (a ++ c :: b) (a.length + 1) (a.length + 1 + b.length) (by omega) (by simp; omega)
    rw [List.take_of_length_le (by simp; omega), ← List.drop_drop, List.drop_left, List.drop_one, List.tail_cons] at this; exact this
  simp (disch := omega) only [go_sem, undef]
  refine callQ H (index_s a b c h ha) fun M f H => ?_
  simp (disch := omega) only [go_sem, undef, hs, hs2, h1, h2, rd_slcs01, rd_slcs10, dec_t (show ((a.length : Nat) : Int) ≥ 0 by omega)]
  exact ⟨rfl, H.fr⟩
theorem cut_s (a b : Bs) (c : UInt8) (h : c ∉ a) (ha : 0 < a.length) (hl : a.length + b.length ≤ 1000000) : MC Tryz.prog n_strings_Cut [.string (zb (a ++ c :: b)), .string (zb [c])] m fun u M => u = .tuple #[.string (zb a), .string (zb b), .bool true] ∧ Fr m M [] := by
  refine strings_Cut_go (by simp [Tryz.f33]) ?_
  have H := Hq.refl m []
  simp (disch := omega) only [go_sem, undef]
  refine callQ H (cut0_s a b c h ha hl) fun M f H => ?_
  simp (disch := omega) only [go_sem, undef]
  exact ⟨rfl, H.fr⟩
theorem hasPrefix_s (a b : Bs) (hl : a.length + b.length ≤ 1000000) : MC Tryz.prog n_internal_stringslite_HasPrefix [.string (zb (a ++ b)), .string (zb a)] m fun u M => u = .bool true ∧ Fr m M [] := by
  refine internal_stringslite_HasPrefix_go (by simp [Tryz.f33]) ?_
  have h1 : cutZ (zb (a ++ b)) 0 (a.length : Nat) = some (.string (zb a)) := by
    have := zb_cut (a ++ b) 0 a.length (by omega) (by simp)
    rw [List.take_left, List.drop_zero] at this; exact this
  have hs : (((zb (a ++ b)).size : Nat) : Int) = ((a.length + b.length : Nat) : Int) := by rw [zb_size]; simp
  have hs2 : (((zb a).size : Nat) : Int) = ((a.length : Nat) : Int) := by rw [zb_size]
  simp (disch := omega) only [go_sem, undef, hs, hs2, dec_t (show ((a.length + b.length : Nat) : Int) ≥ (a.length : Nat) by omega), rd_slcs01, h1, rd_str_eql, decide_eq_true (rfl : zb a = zb a)]
  exact ⟨rfl, Fr.refl _ _⟩
theorem trim0_s (a b : Bs) (hl : a.length + b.length ≤ 1000000) : MC Tryz.prog n_internal_stringslite_TrimPrefix [.string (zb (a ++ b)), .string (zb a)] m fun u M => u = .string (zb b) ∧ Fr m M [] := by
  refine internal_stringslite_TrimPrefix_go (by simp [Tryz.f33]) ?_
  have H := Hq.refl m []
  have hs : (((zb (a ++ b)).size : Nat) : Int) = ((a.length + b.length : Nat) : Int) := by rw [zb_size]; simp
  have hs2 : (((zb a).size : Nat) : Int) = ((a.length : Nat) : Int) := by rw [zb_size]
  have h2 : cutZ (zb (a ++ b)) (a.length : Nat) ((a.length + b.length : Nat) : Int) = some (.string (zb b)) := by
    have := zb_cut (a ++ b) a.length (a.length + b.length) (by omega) (by simp)
    rw [List.take_of_length_le (by simp), List.drop_left] at this; exact this
  simp (disch := omega) only [go_sem, undef]
  refine callQ H (hasPrefix_s a b hl) fun M f H => ?_
  simp (disch := omega) only [go_sem, undef, hs, hs2, rd_slcs10, h2]
  exact ⟨rfl, H.fr⟩
theorem trim_s (a b : Bs) (hl : a.length + b.length ≤ 1000000) : MC Tryz.prog n_strings_TrimPrefix [.string (zb (a ++ b)), .string (zb a)] m fun u M => u = .string (zb b) ∧ Fr m M [] := by
  refine strings_TrimPrefix_go (by simp [Tryz.f33]) ?_
  have H := Hq.refl m []
  simp (disch := omega) only [go_sem, undef]
  refine callQ H (trim0_s a b hl) fun M f H => ?_
  simp (disch := omega) only [go_sem, undef]
  exact ⟨rfl, H.fr⟩
end Go.Fw
namespace Go.Fw
open Go.Proofs
variable {m m0 M : Mem} {S : List Nat} {L : List As}
def dval (l : Bs) : Nat := l.foldl (fun v x => v * 10 + (x.toNat - 48)) 0
theorem dval_snoc (l : Bs) (x : UInt8) : dval (l ++ [x]) = dval l * 10 + (x.toNat - 48) := by simp [dval]
abbrev digs (l : Bs) : Prop := ∀ x ∈ l, 48 ≤ x.toNat ∧ x.toNat ≤ 57
theorem dval_dg : ∀ n, n < 100 → dval (dg n) = n := by decide +kernel
theorem digs_dg : ∀ n, n < 100 → ∀ x ∈ dg n, 48 ≤ x.toNat ∧ x.toNat ≤ 57 := by decide +kernel
theorem dval_lt : ∀ (l : Bs) (v : Nat), digs l → l.foldl (fun v x => v * 10 + (x.toNat - 48)) v < (v + 1) * 10 ^ l.length
  | [], v, _ => by simp
  | x :: r, v, h => by
    have hx := h x (List.mem_cons_self ..)
    have := dval_lt r (v * 10 + (x.toNat - 48)) fun y hy => h y (List.mem_cons_of_mem _ hy)
    rw [List.foldl_cons, List.length_cons, Nat.pow_succ']
    have h2 : (v * 10 + (x.toNat - 48) + 1) * 10 ^ r.length ≤ (v * 10 + 10) * 10 ^ r.length := Nat.mul_le_mul_right _ (by omega)
    rw [show v * 10 + 10 = (v + 1) * 10 from by omega, Nat.mul_assoc] at h2
    omega
theorem s2bQ {P : Program} {t : TypeId} {l : Bs} {K : Value → Mem → Prop} {lk : Lk K} (H : Hq m0 m S L) (k : ∀ v M, RdB M v l → Fr m M [] → Hq m0 M S L → K v M) : xsP P (.s2b t) [.string (zb l)] m K lk := by
  show ∀ c b, (zb l).size ≤ c → m b = none → K _ _
  intro c b hc hb
  refine newQ (l := {}) (l' := {}) (J := fun b M => K (.slice (some ⟨b, 0, none⟩) (zb l).size c) M) H (fun b M f H => ?_) b hb
  have hb := H.cs.1
  refine k _ _ ⟨bc_len, _, _, rfl, hc, .inr ⟨b, 0, rfl, fun i v hv => ?_⟩⟩ f H.tail
  have hi := (List.getElem?_eq_some_iff.1 hv).1
  rw [hb, cellAt_cells, Nat.zero_add, List.getElem?_toArray, str_bys, List.getElem?_append_left]
  · exact hv
  · exact hi
set_option maxHeartbeats 4000000 in
theorem atoi0_s (l : Bs) (hd : digs l) (h0 : 0 < l.length) (h1 : l.length < 10) : MC Tryz.prog n_internal_strconv_Atoi [.string (zb l)] m fun u M => u = .tuple #[.int .i64 (dval l : Nat), .nilIface] ∧ Fr m M [] := by
  refine internal_strconv_Atoi_go (by simp [Tryz.f33]) ?_
  have H := Hq.refl m []
  have hs : (((zb l).size : Nat) : Int) = (l.length : Nat) := by rw [zb_size]
  obtain ⟨x, hx0⟩ : ∃ x, l[0]? = some x := ⟨_, List.getElem?_eq_getElem h0⟩
  have hx := hd x (List.mem_of_getElem? hx0)
  have hix : ∀ M, rd .idxs [.string (zb l), .int .i64 0] M = some (.int .u8 (x.toNat : Nat)) := fun M => by
    rw [rd_idxs _ _ _ (by omega), show (0 : Int).toNat = 0 from rfl, zb_get, hx0]; rfl
  simp (disch := omega) only [go_sem, undef, hs, hix, dec_t (show (0 : Int) < (l.length : Nat) by omega), dec_t (show ((l.length : Nat) : Int) < 10 by omega), dec_t (show ((l.length : Nat) : Int) < 19 by omega), dec_f (show ¬ ((x.toNat : Nat) : Int) = 45 by omega), dec_f (show ¬ ((x.toNat : Nat) : Int) = 43 by omega)]
  refine s2bQ H fun v M hv f H => ?_
  refine Exists.elim hv.form fun a hh => Exists.elim hh fun c ev => ?_
  subst ev
  simp (disch := omega) only [go_sem, undef]
  refine loopQ_intro (fun k E m' => ∃ i, i ≤ l.length ∧ k = l.length - i ∧ E = [(5, .string (zb l)), (6, .int .i64 ((dval (l.take i) : Nat) : Int)), (47, .slice a l.length c), (48, .int .i64 (l.length : Nat)), (49, .int .i64 (i : Nat))] ∧ m' = M) l.length rfl ⟨0, by omega, by omega, rfl, rfl⟩ ?_
  rintro k E M1 ⟨i, hi, rfl, rfl, rfl⟩
  have hlt := dval_lt (l.take i) 0 fun y hy => hd y (List.mem_of_mem_take hy)
  have hpw : 10 ^ (l.take i).length ≤ 10 ^ 10 := Nat.pow_le_pow_right (by omega) (by rw [List.length_take]; omega)
  have hlt : dval (l.take i) < 10000000000 := by
    rw [Nat.zero_add, Nat.one_mul] at hlt
    exact Nat.lt_of_lt_of_le hlt hpw
  clear hpw
  simp (disch := omega) only [go_sem, undef]
  refine condB_dec (fun h2 => ?_) (fun h2 => ?_)
  · have h2 : i < l.length := by omega
    refine RdS.elK hv h2 (by decide) fun bx o y hy hiy hE => ?_
    have hsn : dval (l.take (i + 1)) = dval (l.take i) * 10 + (y.toNat - 48) := by rw [List.take_add_one, hy, Option.toList_some, dval_snoc]
    have hy2 := hd y (List.mem_of_getElem? hy)
    have hw : IntKind.u8.wrap (((y.toNat : Nat) : Int) - 48) = ((y.toNat - 48 : Nat) : Int) := by rw [IntKind.wrap_u8]; omega
    generalize dval (l.take i) = q at *
    simp (disch := omega) only [go_sem, undef, hiy, hE.ld0, hw, dec_f (show ¬ ((y.toNat - 48 : Nat) : Int) > 9 by omega)]
    exact handN_intro (l.length - (i + 1)) (by omega) ⟨i + 1, by omega, rfl, by rw [hsn] <;> rfl, rfl⟩
  · have e : i = l.length := by omega
    subst e
    rw [List.take_length] at *
    simp (disch := omega) only [go_sem, undef, hix, dec_f (show ¬ ((x.toNat : Nat) : Int) = 45 by omega)]
    exact ⟨rfl, H.fr⟩
theorem atoi_s (n : Nat) (hn : n < 100) : MC Tryz.prog n_strconv_Atoi [.string (zb (dg n))] m fun u M => u = .tuple #[.int .i64 (n : Nat), .nilIface] ∧ Fr m M [] := by
  refine strconv_Atoi_go (by simp [Tryz.f33]) ?_
  have H := Hq.refl m []
  have h := dg_len n
  have hq := atoi0_s (m := m) (dg n) (digs_dg n hn) h.1 (by omega)
  rw [dval_dg n hn] at hq
  have he : ∀ M, rd (.eqi true) [.nilIface, .nilIface] M = some (.bool false) := fun _ => rfl
  simp (disch := omega) only [go_sem, undef]
  refine callQ H hq fun M f H => ?_
  simp (disch := omega) only [go_sem, undef, he]
  exact ⟨rfl, H.fr⟩
theorem dot_nin : ∀ n, n < 100 → (46 : UInt8) ∉ dg n := by decide +kernel
set_option maxHeartbeats 4000000 in
theorem placed_s (g k : Nat) (hg : g < 100) (hk : k < 100) (hg0 : 0 < g) (hk0 : 0 < k) : MC Tryz.prog n_wal_placed [.string (zb (nmB g k))] m fun u M => u = .tuple #[.agg #[.int .i64 (g : Int), .int .i64 (k : Int)], .bool true] ∧ Fr m M [] := by
  refine wal_placed_go (by simp [Tryz.f33]) ?_
  have H := Hq.refl m []
  have h1 := dg_len g
  have h2 := dg_len k
  simp (disch := omega) only [go_sem, undef]
  refine newQ H fun b0 M f H => ?_
  simp (disch := omega) only [go_sem, undef, log_eq, dot_eq]
  refine callQ H (trim_s [108, 111, 103, 46] (dg g ++ 46 :: dg k) (by simp; omega)) fun M f H => ?_
  simp (disch := omega) only [go_sem, undef]
  refine callQ H (cut_s (dg g) (dg k) 46 (dot_nin g hg) h1.1 (by omega)) fun M f H => ?_
  simp (disch := omega) only [go_sem, undef]
  refine callQ H (atoi_s g hg) fun M f H => ?_
  simp (disch := omega) only [go_sem, undef]
  refine callQ H (atoi_s k hk) fun M f H => ?_
  simp (disch := omega) only [go_sem, undef]
  refine newQ H fun b1 M f H => ?_
  simp (disch := omega) only [go_sem, undef, H.cs]
  refine stwQ0 H rfl rfl fun M f H => ?_
  simp (disch := omega) only [go_sem, undef, H.cs, dec_t (show ((g : Nat) : Int) > 0 by omega), dec_t (show ((k : Nat) : Int) > 0 by omega), dec_t (show ((g : Nat) : Int) ≤ 999999999 by omega), dec_t (show ((k : Nat) : Int) ≤ 999999999 by omega)]
  refine callQ H (name_s g k hg hk) fun M f H => ?_
  simp (disch := omega) only [go_sem, undef, H.cs, rd_str_eql, decide_eq_true (rfl : zb (nmB g k) = zb (nmB g k))]
  refine stwQ1 H rfl rfl fun M f H => ?_
  simp (disch := omega) only [go_sem, undef, H.cs]
  exact ⟨rfl, H.fr⟩
end Go.Fw
namespace Go.Fw
open Go.Proofs
variable {m m0 M : Mem} {S : List Nat} {L : List As}
/-! the disk: a block of five cells, a row of files of one's own, bytes that nobody writes again -/
structure Fl where
  name : Bs
  b : Bs
  kept : Nat
structure Dk where
  quota : Nat
  fl : List Fl
  off : Bool
  armed : Bool
  left : Nat
abbrev Row := Bs × Value × Nat
def rowE (r : Row) : List Value := [.string (zb r.1), r.2.1, .int .i64 (r.2.2 : Nat)]
theorem rowE_take (r : Row) : (rowE r).take 3 = [.string (zb r.1), r.2.1, .int .i64 (r.2.2 : Nat)] := rfl
theorem rowE_len (r : Row) : (rowE r).length = 3 := rfl
theorem one_of {v : Value} {l : Bs} (h : RdB m v l) : v.oneCell' = true := by
  obtain ⟨a, c, rfl⟩ := h.form; rfl
theorem row_one {s : ByteArray} {v : Value} {n : Int} {l : Bs} (h : RdB m v l) : [Value.string s, v, .int .i64 n].all Value.oneCell' = true := by
  simp only [List.all_cons, List.all_nil, one_of h, Bool.and_true]; rfl
abbrev T_disk : TypeId := 69
abbrev T_file : TypeId := 87
def dkC (fv : Value) (D : Dk) : List Value := [.int .i64 (D.quota : Nat), fv, .bool D.off, .bool D.armed, .int .i64 (D.left : Nat)]
/-- a file and its row -/
def RowOf (m : Mem) (r : Row) (f : Fl) : Prop := r.1 = f.name ∧ r.2.2 = f.kept ∧ RdB m r.2.1 f.b ∧ ∀ x ∈ blkOf r.2.1, m x ≠ none
theorem RowOf.st {m m' : Mem} {r : Row} {f : Fl} (h : RowOf m r f) (e : ∀ x ∈ blkOf r.2.1, m' x = m x) : RowOf m' r f :=
  ⟨h.1, h.2.1, h.2.2.1.st e, fun x hx => by rw [e x hx]; exact h.2.2.2 x hx⟩
/-- the bytes of the files -/
def bsA (rs : List Row) (fl : List Fl) : As where
  fp := rs.flatMap fun r => blkOf r.2.1
  wp := rs.flatMap fun r => blkOf r.2.1
  sub _ h := h
  p m := F2 (RowOf m) rs fl
  st h e := F2_imp h fun r hr f hf => hf.st fun x hx => e x (List.mem_flatMap.2 ⟨r, hr, hx⟩)
  th {m} h b hb := by
    obtain ⟨r, hr, hx⟩ := List.mem_flatMap.1 hb
    have : F2 (fun x y => True ∧ ∀ b ∈ blkOf x.2.1, m b ≠ none) rs fl := F2_imp h fun x hx y hy => ⟨trivial, hy.2.2.2⟩
    exact F2_mem (Q := fun x => ∀ b ∈ blkOf x.2.1, m b ≠ none) this r hr b hx
abbrev dcA (rb : Nat) (fv : Value) (D : Dk) : As := cellA rb (.cells (dkC fv D).toArray T_disk (0, 0))
abbrev drA (fv : Value) (rs : List Row) : As := ownA T_file 3 fv rs.length (rs.flatMap rowE)
def dkA (rb : Nat) (fv : Value) (rs : List Row) (D : Dk) : As := starA (dcA rb fv D) (starA (drA fv rs) (bsA rs D.fl))
section
variable {rb : Nat} {fv : Value} {rs : List Row} {D : Dk}
theorem Hq.open3 (H : Hq m0 m S (dkA rb fv rs D :: L)) : Hq m0 m S (dcA rb fv D :: drA fv rs :: bsA rs D.fl :: L) :=
  (Hq.split ((Hq.split H).perm (List.Perm.swap ..))).perm (((List.Perm.swap ..).trans (List.Perm.cons _ (List.Perm.swap ..))))
theorem Hq.close3 (H : Hq m0 m S (dcA rb fv D :: drA fv rs :: bsA rs D.fl :: L)) : Hq m0 m S (dkA rb fv rs D :: L) :=
  Hq.join ((Hq.join (H.perm (((List.Perm.swap ..).trans (List.Perm.cons _ (List.Perm.swap ..))).symm))).perm (List.Perm.swap ..))
theorem dk_open (h : (dkA rb fv rs D).p m) : Hq m m (dkA rb fv rs D).wp [dcA rb fv D, drA fv rs, bsA rs D.fl] := (Hq.one h).open3
theorem dk_cell (h : (dkA rb fv rs D).p m) : m rb = some (.cells (dkC fv D).toArray T_disk (0, 0)) := (dk_open h).cs.1
theorem dk_row (h : (dkA rb fv rs D).p m) : F2 (RowOf m) rs D.fl := (dk_open h).at 2 rfl
theorem dk_len (h : (dkA rb fv rs D).p m) : rs.length = D.fl.length := F2_len (dk_row h)
theorem dk_rds (h : (dkA rb fv rs D).p m) : RdS 3 rowE m fv rs := Own.rds (by decide) rowE_len ((dk_open h).at 1 rfl)
instance {G : List (Nat × Obj)} [I : CellF L G] : CellF (dkA rb fv rs D :: L) ((rb, .cells (dkC fv D).toArray T_disk (0, 0)) :: G) := ⟨fun m h => ⟨dk_cell h.1, I.h m h.2⟩⟩
/-- where a name stands, or would -/
def findF (nm : Bs) : List Fl → Nat → Nat × Bool
  | [], i => (i, false)
  | x :: r, i => if Op.bytesLess x.name nm then findF nm r (i + 1) else (i, decide (x.name = nm))
theorem rd_str_geq (a b : Bs) : rd (.str .geq) [.string (zb a), .string (zb b)] m = some (.bool (!Op.bytesLess a b)) := rfl
theorem findF_drop (nm : Bs) (l : List Fl) (j : Nat) (x : Fl) (hx : l[j]? = some x) : findF nm (l.drop j) j = if Op.bytesLess x.name nm then findF nm (l.drop (j + 1)) (j + 1) else (j, decide (x.name = nm)) := by
  have hj := (List.getElem?_eq_some_iff.1 hx).1
  rw [List.drop_eq_getElem_cons hj, (List.getElem?_eq_some_iff.1 hx).2]; rfl
theorem F2_at {α β : Type} {R : α → β → Prop} {l : List α} {r : List β} (h : F2 R l r) {i : Nat} (hi : i < l.length) {G : Prop} (k : ∀ x y, l[i]? = some x → r[i]? = some y → R x y → G) : G := by
  have h2 := F2_len h
  exact k _ _ (List.getElem?_eq_getElem hi) (List.getElem?_eq_getElem (by omega)) (F2_get h (List.getElem?_eq_getElem hi) (List.getElem?_eq_getElem (by omega)))
set_option maxHeartbeats 4000000 in
theorem find_s (h : (dkA rb fv rs D).p m) (nm : Bs) (hn : D.fl.length ≤ 1000000) : MC Tryz.prog n_disk_Disk_find [.pointer (some ⟨rb, 0, none⟩), .string (zb nm)] m fun u M => u = .tuple #[.int .i64 ((findF nm D.fl 0).1 : Nat), .bool (findF nm D.fl 0).2] ∧ Fr m M [] := by
  refine disk_Disk_find_go (by simp [Tryz.f33]) ?_
  have H := Hq.refl m []
  have hb := dk_cell h
  have hl := dk_len h
  have hr := dk_rds h
  have hF := dk_row h
  obtain ⟨a, c, rfl⟩ := hr.form
  simp (disch := omega) only [go_sem, undef, hb, dkC]
  refine loopQ_intro (fun k E m' => ∃ j, j ≤ rs.length ∧ k = rs.length - j ∧ E = [(0, .pointer (some ⟨rb, 0, none⟩)), (1, .string (zb nm)), (11, .slice a rs.length c), (12, .int .i64 (rs.length : Nat)), (13, .int .i64 (j : Nat))] ∧ findF nm D.fl 0 = findF nm (D.fl.drop j) j ∧ Fr m m' []) rs.length rfl ⟨0, by omega, by omega, rfl, rfl, Fr.refl _ _⟩ ?_
  rintro k E M1 ⟨j, hj, rfl, rfl, hfd, f⟩
  have H : Hq m M1 [] [] := H.keep f
  simp (disch := omega) only [go_sem, undef]
  refine condB_dec (fun hlt => ?_) (fun hlt => ?_)
  · have hlt : j < rs.length := by omega
    refine F2_at hF hlt fun r y hr1 hy hR => ?_
    refine RdS.elK (hr.frame f) hlt (by decide) fun bx o r' hr' hix hE => ?_
    rw [hr1] at hr'
    cases hr'
    have hrn := hR.1
    rw [findF_drop nm D.fl j y hy] at hfd
    simp (disch := omega) only [go_sem, undef, hix, hE.lda0]
    refine newQ H fun b1 M f1 H => ?_
    simp (disch := omega) only [go_sem, undef, rowE_take]
    refine stwQ0 H rfl (row_one hR.2.2.1) fun M f2 H => ?_
    by_cases hless : Op.bytesLess y.name nm = true
    · rw [if_pos hless] at hfd
      simp (disch := omega) only [go_sem, undef, H.cs, rowE, hrn, rd_str_geq, hless]
      exact handN_intro (rs.length - (j + 1)) (by omega) ⟨j + 1, by omega, rfl, rfl, hfd, H.fr⟩
    · rw [if_neg hless] at hfd
      rw [Bool.not_eq_true] at hless
      simp (disch := omega) only [go_sem, undef, H.cs, rowE, hrn, rd_str_geq, hless, rd_str_eql]
      rw [hfd]
      exact ⟨by simp [zb_inj], H.fr⟩
  · have e : j = rs.length := by omega
    subst e
    rw [hl, List.drop_length] at hfd
    have hb2 := f.get hb (by simp)
    simp (disch := omega) only [go_sem, undef, hb2, dkC]
    rw [hfd]
    exact ⟨by rw [hl]; rfl, f⟩
end
end Go.Fw
namespace Go.Fw
open Go.Proofs
variable {m m0 M : Mem} {S : List Nat} {L : List As}
variable {rb : Nat} {fv : Value} {rs : List Row} {D : Dk}
abbrev lpD (b : Nat) : Value := .pointer (some ⟨b, 0, none⟩)
instance {D' : Dk} : SameB (dkA rb fv rs D') (dkA rb fv rs D) := ⟨by simp [dkA, starA, bsA], by simp [dkA, starA, bsA]⟩
/-- the cell is turned -/
theorem Hq.dk (H : Hq m0 m S (dkA rb fv rs D :: L)) : Hq m0 m S (cellA rb (.cells (dkC fv D).toArray T_disk (0, 0)) :: drA fv rs :: bsA rs D.fl :: L) := H.open3
theorem Hq.kd {l : List Value} (D' : Dk) (H : Hq m0 m S (cellA rb (.cells l.toArray T_disk (0, 0)) :: drA fv rs :: bsA rs D.fl :: L)) (e : l = dkC fv D') (hf : D'.fl = D.fl) : Hq m0 m S (dkA rb fv rs D' :: L) := by
  subst e
  rw [← hf] at H
  exact H.close3
theorem disk_New_s (q : Nat) (hq : q ≤ 1048576) : CN Tryz.prog n_disk_New [.int .i64 (q : Int)] m fun u A => ∃ rb, u = .tuple #[lpD rb, .int .i64 0] ∧ A = dkA rb (.slice none 0 0) [] ⟨q, [], false, false, 0⟩ := by
  refine disk_New_go (by simp [Tryz.f33]) ?_
  have H := Hq.refl m []
  simp (disch := omega) only [go_sem, undef, dec_f (show ¬ ((q : Nat) : Int) < 0 by omega), dec_f (show ¬ ((q : Nat) : Int) > 1048576 by omega)]
  have H0 : Hq m m [] [bsA [] []] := H.add (A := bsA [] []) F2.nil (Fr.refl _ _) (by simp [bsA])
  have H1 := H0.nilRow 87 3
  refine newQ H1 fun b M f H => ?_
  have H := Hq.kd (D := ⟨q, [], false, false, 0⟩) (fv := .slice none 0 0) (rs := []) ⟨q, [], false, false, 0⟩ H rfl rfl
  simp (disch := omega) only [go_sem, undef]
  refine ⟨_, ⟨b, rfl, rfl⟩, H.hs.1, H.fr, fun x hx => ?_⟩
  have : x ∈ (dkA b (.slice none 0 0) [] ⟨q, [], false, false, 0⟩).wp := by simpa [dkA, starA, bsA] using hx
  exact (H.done.2.2 x this).resolve_left (by simp)
def powF (D : Dk) : Dk × Nat := if D.armed then (if D.left = 0 then ({ D with off := true }, 10) else ({ D with left := D.left - 1 }, 0)) else (D, 0)
theorem powF_fl (D : Dk) : (powF D).1.fl = D.fl := by unfold powF; split <;> (try split) <;> rfl
theorem power_s (h : (dkA rb fv rs D).p m) (hl : D.left ≤ 9223372036854775807) : MC Tryz.prog n_disk_Disk_power [lpD rb] m fun u M => (u = .int .i64 ((powF D).2 : Nat) ∧ (dkA rb fv rs (powF D).1).p M) ∧ Fr m M (dkA rb fv rs D).wp := by
  obtain ⟨q, fl, off, armed, left⟩ := D
  refine disk_Disk_power_go (by simp [Tryz.f33]) ?_
  have H := Hq.one h
  have hb := dk_cell h
  cases armed with
  | false =>
    simp (disch := omega) only [go_sem, undef, hb, dkC]
    exact ⟨⟨rfl, h⟩, Fr.refl _ _⟩
  | true =>
    have hl : left ≤ 9223372036854775807 := hl
    by_cases h0 : left = 0
    · subst h0
      simp (disch := omega) only [go_sem, undef, hb, dkC]
      refine wrQ0 H.dk fun M f H => ?_
      have H := Hq.kd (l := dkC fv ⟨q, fl, true, true, 0⟩) (D := ⟨q, fl, off, true, 0⟩) ⟨q, fl, true, true, 0⟩ H rfl rfl
      simp (disch := omega) only [go_sem, undef]
      exact ⟨⟨rfl, H.hs.1⟩, H.fr⟩
    · simp (disch := omega) only [go_sem, undef, hb, dkC, dec_f (show ¬ ((left : Nat) : Int) = 0 by omega)]
      refine wrQ0 H.dk fun M f H => ?_
      have e1 : (left : Int) - 1 = ((left - 1 : Nat) : Int) := by omega
      rw [e1] at H
      have H := Hq.kd (l := dkC fv ⟨q, fl, off, true, left - 1⟩) (D := ⟨q, fl, off, true, left⟩) ⟨q, fl, off, true, left - 1⟩ H rfl rfl
      simp (disch := omega) only [go_sem, undef]
      have e : powF ⟨q, fl, off, true, left⟩ = (⟨q, fl, off, true, left - 1⟩, 0) := by simp [powF, h0]
      rw [e]
      exact ⟨⟨rfl, H.hs.1⟩, H.fr⟩
def knownF (nm : Bs) (D : Dk) : Nat × Nat := if D.off then (0, 10) else if (findF nm D.fl 0).2 then ((findF nm D.fl 0).1, 0) else (0, 8)
theorem known_s (h : (dkA rb fv rs D).p m) (nm : Bs) (hn : D.fl.length ≤ 1000000) : MC Tryz.prog n_disk_Disk_known [lpD rb, .string (zb nm)] m fun u M => u = .tuple #[.int .i64 ((knownF nm D).1 : Nat), .int .i64 ((knownF nm D).2 : Nat)] ∧ Fr m M [] := by
  refine disk_Disk_known_go (by simp [Tryz.f33]) ?_
  have H := Hq.one h
  have hb := dk_cell h
  have hf := find_s h nm hn
  unfold knownF
  generalize findF nm D.fl 0 = r at *
  obtain ⟨i, ok⟩ := r
  obtain ⟨q, fl, off, armed, left⟩ := D
  cases off with
  | true =>
    simp (disch := omega) only [go_sem, undef, hb, dkC]
    exact ⟨rfl, Fr.refl _ _⟩
  | false =>
    simp (disch := omega) only [go_sem, undef, hb, dkC]
    refine callQ (Hq.refl m []) hf fun M f H => ?_
    cases ok with
    | true =>
      simp (disch := omega) only [go_sem, undef]
      exact ⟨rfl, f⟩
    | false =>
      simp (disch := omega) only [go_sem, undef]
      exact ⟨rfl, f⟩
end Go.Fw
namespace Go.Fw
open Go.Proofs
variable {m m0 M : Mem} {S : List Nat} {L : List As}
variable {rb : Nat} {fv : Value} {rs : List Row} {D : Dk}
def tot (l : List Fl) : Nat := (l.map fun f => f.b.length).sum
theorem tot_take (l : List Fl) (j : Nat) (x : Fl) (hx : l[j]? = some x) : tot (l.take (j + 1)) = tot (l.take j) + x.b.length := by
  rw [List.take_add_one, hx, Option.toList_some]; simp [tot]
theorem tot_app (a b : List Fl) : tot (a ++ b) = tot a + tot b := by simp [tot]
theorem tot_le (l : List Fl) (j : Nat) : tot (l.take j) ≤ tot l := by
  have := tot_app (l.take j) (l.drop j)
  rw [List.take_append_drop] at this; omega
set_option maxHeartbeats 4000000 in
theorem total_s (h : (dkA rb fv rs D).p m) (hn : D.fl.length ≤ 1000000) (hT : tot D.fl ≤ 1000000000) : MC Tryz.prog n_disk_Disk_Total [lpD rb] m fun u M => u = .int .i64 (tot D.fl : Nat) ∧ Fr m M [] := by
  refine disk_Disk_Total_go (by simp [Tryz.f33]) ?_
  have H := Hq.refl m []
  have hb := dk_cell h
  have hl := dk_len h
  have hr := dk_rds h
  have hF := dk_row h
  obtain ⟨a, c, rfl⟩ := hr.form
  simp (disch := omega) only [go_sem, undef, hb, dkC]
  refine loopQ_intro (fun k E m' => ∃ j, j ≤ rs.length ∧ k = rs.length - j ∧ E = [(3, .int .i64 (tot (D.fl.take j) : Nat)), (9, .slice a rs.length c), (10, .int .i64 (rs.length : Nat)), (11, .int .i64 (j : Nat))] ∧ Fr m m' []) rs.length rfl ⟨0, by omega, by omega, rfl, Fr.refl _ _⟩ ?_
  rintro k E M1 ⟨j, hj, rfl, rfl, f⟩
  have H : Hq m M1 [] [] := H.keep f
  have ht0 := tot_le D.fl j
  have ht1 := tot_le D.fl (j + 1)
  simp (disch := omega) only [go_sem, undef]
  refine condB_dec (fun hlt => ?_) (fun hlt => ?_)
  · have hlt : j < rs.length := by omega
    refine F2_at hF hlt fun r y hr1 hy hR => ?_
    refine RdS.elK (hr.frame f) hlt (by decide) fun bx o r' hr' hix hE => ?_
    rw [hr1] at hr'
    cases hr'
    refine Exists.elim hR.2.2.1.form fun a3 hh => Exists.elim hh fun c3 ev => ?_
    have hsn := tot_take D.fl j y hy
    simp (disch := omega) only [go_sem, undef, hix, hE.lda0]
    refine newQ H fun b1 M f1 H => ?_
    simp (disch := omega) only [go_sem, undef, rowE_take]
    refine stwQ0 H rfl (row_one hR.2.2.1) fun M f2 H => ?_
    simp (disch := omega) only [go_sem, undef, H.cs, ev]
    exact handN_intro (rs.length - (j + 1)) (by omega) ⟨j + 1, by omega, rfl, by rw [hsn]; rfl, H.fr⟩
  · have e : j = rs.length := by omega
    subst e
    rw [hl, List.take_length]
    simp (disch := omega) only [go_sem, undef]
    exact ⟨rfl, f⟩
theorem room_s (h : (dkA rb fv rs D).p m) (hn : D.fl.length ≤ 1000000) (hT : tot D.fl ≤ 1000000000) (hq : D.quota ≤ 1000000000) : MC Tryz.prog n_disk_Disk_Room [lpD rb] m fun u M => u = .int .i64 ((D.quota : Int) - (tot D.fl : Nat)) ∧ Fr m M [] := by
  refine disk_Disk_Room_go (by simp [Tryz.f33]) ?_
  have H := Hq.refl m []
  have hb := dk_cell h
  simp (disch := omega) only [go_sem, undef, hb, dkC]
  refine callQ H (total_s h hn hT) fun M f H => ?_
  have hb2 := f.get hb (by simp)
  simp (disch := omega) only [go_sem, undef, hb2, dkC]
  exact ⟨rfl, f⟩
/-- one's own copy of bytes -/
theorem clone_s {v : Value} {l : Bs} (hv : RdB m v l) (hl : l.length ≤ 1000000000) : CN Tryz.prog n_slices_Clone_byte_byte [v] m fun u A => A = byA T_uint8 u l := by
  obtain ⟨a, c, rfl⟩ := hv.form
  have H := Hq.refl m []
  cases a with
  | none =>
    have e : l = [] := by
      obtain ⟨_, a', c', e, _, hr⟩ := hv
      cases e
      rcases hr with h0 | ⟨b, o, h1, _⟩
      · have := fm_len bc_len l
        rw [h0] at this
        exact List.eq_nil_of_length_eq_zero (by simpa using this.symm)
      · cases h1
    subst e
    refine slices_Clone_byte_byte_go (by simp [Tryz.f33]) ?_
    simp (disch := omega) only [go_sem, undef, Option.isNone]
    exact ⟨_, rfl, Own.nil _ _ _, Fr.refl _ _, by simp [byA, ownA, blkOf]⟩
  | some a =>
    refine slices_Clone_byte_byte_go (by simp [Tryz.f33]) ?_
    simp (disch := omega) only [go_sem, undef, Option.isNone]
    refine newQ H fun b M f H => ?_
    have H := H.toRow (l := []) 1 0 0 rfl (by omega)
    simp only [Nat.zero_mul, List.take_zero] at H
    simp (disch := omega) only [go_sem, undef]
    refine appQ0 H (k := l.length) rfl (ldS_of (hv.frame f)) (by rw [bys_len]; omega) (bys_one l) rfl (by omega) (by omega) fun w M f H => ?_
    have H : Hq m M [] [byA T_uint8 w l] := by simpa [bys, ownA, byA] using H
    simp (disch := omega) only [go_sem, undef]
    exact ⟨_, rfl, H.hs.1, H.fr, fun b hb => (H.done.2.2 b hb).resolve_left (by simp)⟩
theorem findF_ok (nm : Bs) : ∀ (l : List Fl) (i : Nat), (findF nm l i).2 = true → i ≤ (findF nm l i).1 ∧ ∃ x, l[(findF nm l i).1 - i]? = some x ∧ x.name = nm
  | [], i, h => by simp [findF] at h
  | x :: r, i, h => by
    unfold findF at h ⊢
    by_cases hx : Op.bytesLess x.name nm = true
    · rw [if_pos hx] at h ⊢
      obtain ⟨h1, y, h2, h3⟩ := findF_ok nm r (i + 1) h
      refine ⟨by omega, y, ?_, h3⟩
      rw [show (findF nm r (i + 1)).1 - i = (findF nm r (i + 1)).1 - (i + 1) + 1 from by omega, List.getElem?_cons_succ]
      exact h2
    · rw [if_neg hx] at h ⊢
      exact ⟨Nat.le_refl _, x, by simp, by simpa using h⟩
/-- the file of a name -/
def lookF (nm : Bs) (l : List Fl) : Option Fl := if (findF nm l 0).2 then l[(findF nm l 0).1]? else none
def rdB (o : Option Fl) : Bs := (o.map Fl.b).getD []
theorem read_s (h : (dkA rb fv rs D).p m) (nm : Bs) (hn : D.fl.length ≤ 1000000) (hT : tot D.fl ≤ 1000000000) : CN Tryz.prog n_disk_Disk_Read [lpD rb, .string (zb nm)] m fun u A => ∃ w, u = .tuple #[w, .bool (lookF nm D.fl).isSome] ∧ A = byA T_uint8 w (rdB (lookF nm D.fl)) := by
  have hf := find_s h nm hn
  have ho := findF_ok nm D.fl 0
  unfold lookF
  generalize findF nm D.fl 0 = r at *
  obtain ⟨i, ok⟩ := r
  have H := Hq.refl m []
  cases ok with
  | false =>
    refine disk_Disk_Read_go (by simp [Tryz.f33]) ?_
    simp (disch := omega) only [go_sem, undef]
    refine callQ H hf fun M f H => ?_
    simp (disch := omega) only [go_sem, undef]
    exact ⟨byA T_uint8 (.slice none 0 0) [], ⟨_, rfl, rfl⟩, Own.nil _ _ _, f, by simp [byA, ownA, blkOf]⟩
  | true =>
    obtain ⟨_, y, hy, _⟩ := ho rfl
    rw [Nat.sub_zero] at hy
    have hy : D.fl[i]? = some y := hy
    have hi := (List.getElem?_eq_some_iff.1 hy).1
    have e1 : (if ((i, true) : Nat × Bool).2 = true then D.fl[((i, true) : Nat × Bool).1]? else none) = some y := by rw [if_pos rfl]; exact hy
    rw [e1]
    have hb := dk_cell h
    have hl := dk_len h
    have hr := dk_rds h
    refine F2_at (i := i) (dk_row h) (by omega) fun r y' hr1 hy' hR => ?_
    rw [hy] at hy'
    cases hy'
    have hyl : y.b.length ≤ 1000000000 := by
      have h1 := tot_take D.fl i y hy
      have h2 := tot_le D.fl (i + 1)
      omega
    obtain ⟨a, c, rfl⟩ := hr.form
    refine disk_Disk_Read_go (by simp [Tryz.f33]) ?_
    simp (disch := omega) only [go_sem, undef]
    refine callQ H hf fun M f H => ?_
    have hb := f.get hb (by simp)
    refine RdS.elK (hr.frame f) (show i < rs.length by omega) (by decide) fun bx o r' hr' hix hE => ?_
    rw [hr1] at hr'
    cases hr'
    have hc := hE.cell 1 _ rfl
    simp (disch := omega) only [go_sem, undef, hb, dkC, hix, hc]
    refine callN H (clone_s (hR.2.2.1.frame f) hyl) fun u M A' eA f H => ?_
    subst eA
    simp (disch := omega) only [go_sem, undef]
    exact ⟨_, ⟨_, rfl, rfl⟩, H.hs.1, H.fr, fun b hb => (H.done.2.2 b hb).resolve_left (by simp)⟩
/-- names in a row of one's own -/
def nmE (f : Bs) : List Value := [.string (zb f)]
theorem nmE_len (f : Bs) : (nmE f).length = 1 := rfl
abbrev nsA (v : Value) (l : List Bs) : As := ownA 9 1 v l.length (l.flatMap nmE)
set_option maxHeartbeats 4000000 in
theorem names_s (h : (dkA rb fv rs D).p m) (hn : D.fl.length ≤ 1000000) : CN Tryz.prog n_disk_Disk_Names [lpD rb] m fun u A => A = nsA u (D.fl.map Fl.name) := by
  refine disk_Disk_Names_go (by simp [Tryz.f33]) ?_
  have H := (Hq.refl m []).nilRow 9 1
  have hb := dk_cell h
  have hl := dk_len h
  have hr := dk_rds h
  have hF := dk_row h
  obtain ⟨a, c, rfl⟩ := hr.form
  simp (disch := omega) only [go_sem, undef, hb, dkC]
  refine loopQ_intro (fun k E m' => ∃ j w, j ≤ rs.length ∧ k = rs.length - j ∧ E = [(3, w), (9, .slice a rs.length c), (10, .int .i64 (rs.length : Nat)), (11, .int .i64 (j : Nat))] ∧ Hq m m' [] [nsA w ((D.fl.take j).map Fl.name)]) rs.length rfl ⟨0, _, by omega, by omega, rfl, H⟩ ?_
  rintro k E M1 ⟨j, w, hj, rfl, rfl, H⟩
  simp (disch := omega) only [go_sem, undef]
  refine condB_dec (fun hlt => ?_) (fun hlt => ?_)
  · have hlt : j < rs.length := by omega
    refine F2_at hF hlt fun r y hr1 hy hR => ?_
    refine RdS.elK (hr.frame H.fr) hlt (by decide) fun bx o r' hr' hix hE => ?_
    rw [hr1] at hr'
    cases hr'
    have hlen : ((D.fl.take j).map Fl.name).length = j := by simp; omega
    have hrn := hR.1
    simp (disch := omega) only [go_sem, undef, hix, hE.lda0]
    refine newQ H fun b1 M f1 H => ?_
    simp (disch := omega) only [go_sem, undef, rowE_take]
    refine stwQ0 H rfl (row_one hR.2.2.1) fun M f2 H => ?_
    simp (disch := omega) only [go_sem, undef, H.cs, hrn]
    refine newQ H fun b2 M f1 H => ?_
    simp (disch := omega) only [go_sem, undef]
    refine appQ2 H (k := 1) rfl (ldS_cell (l := [_]) H.cs.1 (by simp)) rfl (by simp [Value.oneCell']) rfl (by omega) (by omega) fun w3 M f H => ?_
    have H := H.tail.tail
    have H : Hq m M [] [nsA w3 ((D.fl.take (j + 1)).map Fl.name)] := by
      have e : (D.fl.take (j + 1)).map Fl.name = (D.fl.take j).map Fl.name ++ [y.name] := by rw [List.take_add_one, hy]; simp
      rw [e, nsA, List.length_append, List.flatMap_append]
      exact H
    simp (disch := omega) only [go_sem, undef]
    exact handN_intro (rs.length - (j + 1)) (by omega) ⟨j + 1, w3, by omega, rfl, rfl, H⟩
  · have e : j = rs.length := by omega
    subst e
    rw [hl, List.take_length] at H
    simp (disch := omega) only [go_sem, undef]
    exact ⟨_, rfl, H.hs.1, H.fr, fun b hb => (H.done.2.2 b hb).resolve_left (by simp)⟩
set_option maxHeartbeats 4000000 in
theorem may_s (nm : Bs) (h0 : 0 < nm.length) (h1 : nm.length ≤ 24) (hc : ∀ x ∈ nm, 33 ≤ x.toNat ∧ x.toNat ≤ 126) : MC Tryz.prog n_disk_may [.string (zb nm)] m fun u M => u = .bool true ∧ Fr m M [] := by
  refine disk_may_go (by simp [Tryz.f33]) ?_
  have hs : (((zb nm).size : Nat) : Int) = (nm.length : Nat) := by rw [zb_size]
  have hne : ¬ zb nm = (⟨#[]⟩ : ByteArray) := by
    intro e
    have : zb nm = zb [] := e
    rw [zb_inj.1 this] at h0; simp at h0
  simp (disch := omega) only [go_sem, undef, rd_str_eql, dec_f hne, hs, dec_f (show ¬ ((nm.length : Nat) : Int) > 24 by omega)]
  refine loopQ_intro (fun k E m' => ∃ j, j ≤ nm.length ∧ k = nm.length - j ∧ E = [(0, .string (zb nm)), (12, .int .i64 (nm.length : Nat)), (13, .int .i64 (j : Nat))] ∧ m' = m) nm.length rfl ⟨0, by omega, by omega, rfl, rfl⟩ ?_
  rintro k E M1 ⟨j, hj, rfl, rfl, rfl⟩
  simp (disch := omega) only [go_sem, undef]
  refine condB_dec (fun hlt => ?_) (fun hlt => ?_)
  · have hlt : j < nm.length := by omega
    have hx := hc nm[j] (List.getElem_mem hlt)
    have hix : rd .idxs [.string (zb nm), .int .i64 (j : Nat)] M1 = some (.int .u8 (nm[j].toNat : Nat)) := by
      rw [rd_idxs _ _ _ (by omega), Int.toNat_natCast, zb_get, List.getElem?_eq_getElem hlt]; rfl
    simp (disch := omega) only [go_sem, undef, hix, dec_f (show ¬ ((nm[j].toNat : Nat) : Int) < 33 by omega), dec_f (show ¬ ((nm[j].toNat : Nat) : Int) > 126 by omega)]
    exact handN_intro (nm.length - (j + 1)) (by omega) ⟨j + 1, by omega, rfl, rfl, rfl⟩
  · simp (disch := omega) only [go_sem, undef]
    exact ⟨rfl, Fr.refl _ _⟩
theorem nm_ok : ∀ g, g < 100 → ∀ x ∈ dg g, 33 ≤ x.toNat ∧ x.toNat ≤ 126 := by decide +kernel
theorem nm_may (g k : Nat) (hg : g < 100) (hk : k < 100) : 0 < (nmB g k).length ∧ (nmB g k).length ≤ 24 ∧ ∀ x ∈ nmB g k, 33 ≤ x.toNat ∧ x.toNat ≤ 126 := by
  have h1 := dg_len g
  have h2 := dg_len k
  refine ⟨by simp [nmB], by simp [nmB]; omega, fun x hx => ?_⟩
  rw [nmB] at hx
  rcases List.mem_append.1 hx with hx | hx
  · have : ∀ x ∈ ([108, 111, 103, 46] : Bs), 33 ≤ x.toNat ∧ x.toNat ≤ 126 := by decide
    exact this x hx
  rcases List.mem_append.1 hx with hx | hx
  · exact nm_ok g hg x hx
  rcases List.mem_cons.1 hx with rfl | hx
  · decide
  · exact nm_ok k hk x hx
end Go.Fw
namespace Go.Fw
open Go.Proofs
variable {m m0 M : Mem} {S : List Nat} {L : List As}
variable {rb : Nat} {fv : Value} {rs : List Row} {D : Dk}
theorem RdS.elO {α : Type} {k : Nat} {enc : α → List Value} {m : Mem} {b c n i : Nat} {l : List α} {x : α} (h : RdS k enc m (.slice (some ⟨b, 0, none⟩) n c) l) (e : l.length = n) (hx : l[i]? = some x) (k0 : 0 < k) : El k enc m b (i * k) x := by
  subst e
  have hi := (List.getElem?_eq_some_iff.1 hx).1
  have hx' := (List.getElem?_eq_some_iff.1 hx).2
  obtain ⟨b', o, e, _, hc⟩ := h.at hi k0
  cases e
  refine ⟨h.1 _, fun j v hv => ?_⟩
  have := hc j v (by rw [hx']; exact hv)
  rwa [Nat.zero_add] at this
theorem Own.rowK {m : Mem} {t : TypeId} {size n : Nat} {v : Value} {xs : List Value} {G : Prop} (h : Own m t size v n xs) (hn : 0 < n) (K : ∀ b cap tail, v = .slice (some ⟨b, 0, none⟩) n cap → m b = some (.cells (xs ++ tail).toArray t (0, 0)) → (xs ++ tail).length = cap * size → G) : G := by
  rcases h.2 with ⟨rfl, rfl⟩ | ⟨b, cap, tail, rfl, hb, hl⟩
  · omega
  · exact K b cap tail rfl hb hl
theorem Hq.toCell {m0 m : Mem} {S : List Nat} {L : List As} {t : TypeId} {size n b cap : Nat} {xs tail : List Value} (H : Hq m0 m S (ownA t size (.slice (some ⟨b, 0, none⟩) n cap) n xs :: L)) (hb : m b = some (.cells (xs ++ tail).toArray t (0, 0))) :
    Hq m0 m S (cellA b (.cells (xs ++ tail).toArray t (0, 0)) :: L) :=
  H.rep0 (A' := cellA b (.cells (xs ++ tail).toArray t (0, 0))) (by with_unfolding_all exact hb) (Fr.refl _ _) (fun x hx => .inl (by simpa [blkOf] using hx)) (fun x hx => .inl (by simpa [blkOf] using hx))
theorem Hq.ofCell {m0 m : Mem} {S : List Nat} {L : List As} {t : TypeId} {size n b cap : Nat} {xs tail : List Value} (H : Hq m0 m S (cellA b (.cells (xs ++ tail).toArray t (0, 0)) :: L)) (hx : xs.length = n * size) (hl : (xs ++ tail).length = cap * size) :
    Hq m0 m S (ownA t size (.slice (some ⟨b, 0, none⟩) n cap) n xs :: L) :=
  H.rep0 (A' := ownA t size (.slice (some ⟨b, 0, none⟩) n cap) n xs) ⟨hx, .inr ⟨b, cap, tail, rfl, by have h := H.hs.1; with_unfolding_all exact h, hl⟩⟩ (Fr.refl _ _) (fun x hx => .inl (by simpa [blkOf] using hx)) (fun x hx => .inl (by simpa [blkOf] using hx))
theorem row_set {R : List Row} {j : Nat} {p : Row} (h : R[j]? = some p) (tail : List Value) (x : Value) (q : Row) (c : Nat) (hc : c < 3) (hq : (rowE p).set c x = rowE q) : ((R.flatMap rowE) ++ tail).set (j * 3 + c) x = (R.set j q).flatMap rowE ++ tail := by
  induction R generalizing j with
  | nil => simp at h
  | cons y r ih =>
    rw [List.flatMap_cons, List.append_assoc]
    cases j with
    | zero =>
      simp at h
      subst h
      rw [List.set_append_left _ _ (by rw [rowE_len]; omega), Nat.zero_mul, Nat.zero_add, hq]
      simp
    | succ j =>
      rw [List.set_append_right _ _ (by rw [rowE_len]; omega), rowE_len, show (j + 1) * 3 + c - 3 = j * 3 + c from by omega, ih (by simpa using h)]
      simp
/-- a cell of a file is written over -/
theorem putFile {b n cap i c : Nat} {x : Value} {r r' : Row} {J : Mem → Prop} {l : Lk J} {l' : Lk m} {l'' : Lk fun y => wrO m b y J l l'} (H : Hq m0 m S (drA (.slice (some ⟨b, 0, none⟩) n cap) rs :: L)) (hi : rs[i]? = some r) (hc : c < 3) (hq : (rowE r).set c x = rowE r')
    (K : ∀ M, Fr m M [b] → Hq m0 M S (drA (.slice (some ⟨b, 0, none⟩) n cap) (rs.set i r') :: L) → J M) : bObj (putAt (m b) (i * 3 + c) x) (fun y => wrO m b y J l l') l'' := by
  have hil := (List.getElem?_eq_some_iff.1 hi).1
  refine Own.rowK (H.at 0 rfl) (by omega) fun b' cap' tail e hb hl => ?_
  have en : n = rs.length := by injection e
  have eb : b = b' := by injection e with e1; injection e1 with e1; injection e1
  have ec : cap = cap' := by injection e
  subst eb ec
  have H2 := Hq.toCell (n := n) (size := 3) (t := T_file) (xs := rs.flatMap rowE) (by subst en; exact H) hb
  have hfl : (rs.flatMap rowE).length = rs.length * 3 := fm_len rowE_len _
  rw [hb, putAt_cells _ _ _ _ (by rw [List.size_toArray, List.length_append, hfl]; omega), bObj_some]
  refine wrQ0 H2 fun M f H3 => ?_
  rw [List.setIfInBounds_toArray, row_set hi tail x r' c hc hq] at H3
  have hfl2 : ((rs.set i r').flatMap rowE).length = rs.length * 3 := by rw [fm_len rowE_len, List.length_set]
  refine K M f ?_
  have := Hq.ofCell (size := 3) (n := n) (cap := cap) H3 (by rw [hfl2, en]) (by rw [← hl, List.length_append, List.length_append, hfl, hfl2])
  rw [drA, List.length_set, ← en]
  exact this
theorem F2_set {α β : Type} {R : α → β → Prop} {l : List α} {r : List β} (h : F2 R l r) (i : Nat) {x : α} {y : β} (hx : R x y) : F2 R (l.set i x) (r.set i y) := by
  induction h generalizing i with
  | nil => exact .nil
  | cons h1 h2 ih =>
    cases i with
    | zero => exact .cons hx h2
    | succ i => exact .cons h1 (ih i)
end Go.Fw
namespace Go.Fw
open Go.Proofs
variable {m m0 M : Mem} {S : List Nat} {L : List As}
variable {rb : Nat} {fv : Value} {rs : List Row} {D : Dk}
/-- a disk comes out of a disk -/
def DkR (rb : Nat) (D' : Dk) (V u : Value) (A : As) : Prop := u = V ∧ ∃ fv rs, A = dkA rb fv rs D'
theorem dk_fw : (dkA rb fv rs D).fp = (dkA rb fv rs D).wp := by simp [dkA, starA, bsA]
theorem cm_done {fv' : Value} {rs' : List Row} {D' : Dk} {V : Value} (H : Hq m M (dkA rb fv rs D).wp [dkA rb fv' rs' D']) :
    ∃ A', DkR rb D' V V A' ∧ A'.p M ∧ Fr m M (dkA rb fv rs D).wp ∧ (∀ b ∈ A'.fp, b ∈ (dkA rb fv rs D).fp ∨ m b = none) ∧ ∀ b ∈ A'.wp, b ∈ (dkA rb fv rs D).wp ∨ m b = none :=
  ⟨_, ⟨rfl, _, _, rfl⟩, H.hs.1, H.fr, fun b hb => by rw [dk_fw]; rw [dk_fw] at hb; exact H.done.2.2 b hb, H.done.2.2⟩
theorem bs_set {i : Nat} {r r' : Row} {f f' : Fl} {fl : List Fl} (H : Hq m0 m S (bsA rs fl :: L)) (hi : rs[i]? = some r) (hf : fl[i]? = some f) (hr : r'.2.1 = r.2.1) (h' : RowOf m r f → RowOf m r' f') : Hq m0 m S (bsA (rs.set i r') (fl.set i f') :: L) := by
  have e : ((rs.set i r').flatMap fun r => blkOf r.2.1) = rs.flatMap fun r => blkOf r.2.1 := by
    have : (rs.set i r').map (fun r => blkOf r.2.1) = rs.map (fun r => blkOf r.2.1) := by
      rw [List.map_set, hr]
      apply List.ext_getElem?
      intro j
      rw [List.getElem?_set]
      split
      · rename_i hij
        subst hij
        rw [List.getElem?_map, hi]; simp
        exact (List.getElem?_eq_some_iff.1 hi).1
      · rfl
    rw [List.flatMap_def, List.flatMap_def, this]
  refine H.rep0 (A' := bsA (rs.set i r') (fl.set i f')) (F2_set (H.at 0 rfl) i (h' (F2_get (H.at 0 rfl) hi hf))) (Fr.refl _ _) ?_ ?_
  · intro b hb
    left
    have hb : b ∈ (rs.set i r').flatMap fun r => blkOf r.2.1 := hb
    rw [e] at hb; exact hb
  · intro b hb
    left
    have hb : b ∈ (rs.set i r').flatMap fun r => blkOf r.2.1 := hb
    rw [e] at hb; exact hb
theorem Hq.rot3 {A B C : As} (H : Hq m0 m S (A :: B :: C :: L)) : Hq m0 m S (B :: A :: C :: L) := H.perm (List.Perm.swap ..)
theorem Hq.rot3' {A B C : As} (H : Hq m0 m S (A :: B :: C :: L)) : Hq m0 m S (C :: A :: B :: L) := H.perm ((List.Perm.swap ..).trans (List.Perm.cons _ (List.Perm.swap ..))).symm |>.perm (List.Perm.refl _) |>.perm ((List.Perm.swap ..).trans (List.Perm.cons _ (List.Perm.swap ..))).symm
theorem modify_set {α : Type} : ∀ {l : List α} {i : Nat} {y : α} {g : α → α}, l[i]? = some y → l.modify i g = l.set i (g y)
  | [], i, y, g, h => by simp at h
  | x :: r, 0, y, g, h => by simp at h; subst h; rfl
  | x :: r, i + 1, y, g, h => by
    have := modify_set (l := r) (i := i) (g := g) (by simpa using h)
    simp [this]
def keptF (f : Fl) : Fl := { f with kept := f.b.length }
def syncF (nm : Bs) (D : Dk) : Dk × Nat :=
  if (knownF nm D).2 ≠ 0 then (D, (knownF nm D).2) else if (powF D).2 ≠ 0 then powF D else ({ (powF D).1 with fl := D.fl.modify (knownF nm D).1 keptF }, 0)
theorem known_at (nm : Bs) (D : Dk) (h : (knownF nm D).2 = 0) : ∃ y, D.fl[(knownF nm D).1]? = some y ∧ y.name = nm := by
  unfold knownF at *
  split at h
  · cases h
  split at h
  · rename_i h0 h1
    rw [if_neg h0, if_pos h1]
    obtain ⟨_, y, hy, hn⟩ := findF_ok nm D.fl 0 h1
    exact ⟨y, by simpa using hy, hn⟩
  · cases h
set_option maxHeartbeats 4000000 in
theorem sync_s (h : (dkA rb fv rs D).p m) (nm : Bs) (hn : D.fl.length ≤ 1000000) (hl : D.left ≤ 9223372036854775807) (hT : tot D.fl ≤ 1000000000) : CM Tryz.prog n_disk_Disk_Sync [lpD rb, .string (zb nm)] m (dkA rb fv rs D) (DkR rb (syncF nm D).1 (.int .i64 ((syncF nm D).2 : Nat))) := by
  have H := Hq.one h
  have hk := known_s h nm hn
  have hat := known_at nm D
  have hps := fun M (h : (dkA rb fv rs D).p M) => power_s h hl
  have hpf := powF_fl D
  unfold syncF
  generalize knownF nm D = q at *
  obtain ⟨i, e⟩ := q
  generalize powF D = pd at *
  obtain ⟨D1, e1⟩ := pd
  by_cases he : e = 0
  · subst he
    rw [if_neg (by simp)]
    by_cases he1 : e1 = 0
    · subst he1
      rw [if_neg (by simp)]
      obtain ⟨y, hy, hyn⟩ := hat rfl
      have hy : D.fl[i]? = some y := hy
      have hpf : D1.fl = D.fl := hpf
      have hi := (List.getElem?_eq_some_iff.1 hy).1
      have hyl : y.b.length ≤ 1000000000 := by
        have h1 := tot_take D.fl i y hy
        have h2 := tot_le D.fl (i + 1)
        omega
      refine disk_Disk_Sync_go (by simp [Tryz.f33]) ?_
      simp (disch := omega) only [go_sem, undef]
      refine callQ H hk fun M f H => ?_
      simp (disch := omega) only [go_sem, undef]
      refine callS0 (dkA rb fv rs D1) H (hps _ (H.at 0 rfl)) (by simp [dkA, starA, bsA]) (by simp [dkA, starA, bsA]) fun M f H => ?_
      have hp := H.at 0 rfl
      have hb := dk_cell hp
      have hlen := dk_len hp
      rw [hpf] at hlen
      refine F2_at (i := i) (dk_row hp) (by omega) fun r y' hr1 hy' hR => ?_
      rw [hpf, hy] at hy'
      cases hy'
      refine Own.rowK ((H.open3).at 1 rfl) (by omega) fun b cap tail efv hbb hll => ?_
      subst efv
      have hE := RdS.elO (dk_rds hp) rfl hr1 (by decide)
      have hc := hE.cell 1 _ rfl
      refine Exists.elim hR.2.2.1.form fun a3 hh => Exists.elim hh fun c3 ev => ?_
      rw [ev] at hc
      have hil : i < rs.length := by omega
      simp (disch := omega) only [go_sem, undef, hb, dkC, rd_ixs, hc]
      refine putFile (r' := (r.1, r.2.1, y.b.length)) H.open3.rot3 hr1 (by decide) rfl fun M f H => ?_
      have H := bs_set (f := y) (f' := keptF y) (r' := (r.1, r.2.1, y.b.length)) H.rot3' hr1 (by rw [hpf]; exact hy) rfl fun hR => ⟨hR.1, rfl, hR.2.2.1, hR.2.2.2⟩
      have e2 : D1.fl.set i (keptF y) = D.fl.modify i keptF := by
        rw [hpf, modify_set hy]
      have H : Hq m M (dkA rb (.slice (some ⟨b, 0, none⟩) rs.length cap) rs D).wp [bsA (rs.set i (r.1, r.2.1, y.b.length)) (D.fl.modify i keptF), drA (.slice (some ⟨b, 0, none⟩) rs.length cap) (rs.set i (r.1, r.2.1, y.b.length)), dcA rb (.slice (some ⟨b, 0, none⟩) rs.length cap) { D1 with fl := D.fl.modify i keptF }] := by
        rw [← e2]; exact H
      have H := Hq.close3 (D := { D1 with fl := D.fl.modify i keptF }) H.rot3.rot3'
      simp (disch := omega) only [go_sem, undef]
      exact cm_done H
    · rw [if_pos he1]
      refine disk_Disk_Sync_go (by simp [Tryz.f33]) ?_
      simp (disch := omega) only [go_sem, undef]
      refine callQ H hk fun M f H => ?_
      simp (disch := omega) only [go_sem, undef]
      refine callS0 (dkA rb fv rs D1) H (hps _ (H.at 0 rfl)) (by simp [dkA, starA, bsA]) (by simp [dkA, starA, bsA]) fun M f H => ?_
      simp (disch := omega) only [go_sem, undef, dec_f (show ¬ ((e1 : Nat) : Int) = 0 by omega)]
      exact cm_done H
  · rw [if_pos he]
    refine disk_Disk_Sync_go (by simp [Tryz.f33]) ?_
    simp (disch := omega) only [go_sem, undef]
    refine callQ H hk fun M f H => ?_
    simp (disch := omega) only [go_sem, undef, dec_f (show ¬ ((e : Nat) : Int) = 0 by omega)]
    exact cm_done H
end Go.Fw
namespace Go.Fw
open Go.Proofs
variable {m m0 M : Mem} {S : List Nat} {L : List As}
variable {rb : Nat} {fv : Value} {rs : List Row} {D : Dk}
theorem appnQ {P : Program} {K : Value → Mem → Prop} {lk : Lk K} (H : Hq m0 m S L) (n : Nat) (h0 : 0 < n) (hb : n ≤ 1000000000)
    (k : ∀ b M (c : Nat) (l : List Value), n ≤ c → l.length = c → Fr m M [] → Hq m0 M S (cellA b (.cells l.toArray 5 (0, 0)) :: L) → K (.slice (some ⟨b, 0, none⟩) n c) M) :
    xsP P (.appn 5 1 1 [.int .u8 0]) [.slice none 0 0, .int .i64 (n : Int)] m K lk := by
  show 0 ≤ (n : Int) ∧ (n : Int) * ((1 : Nat) : Int) ≤ 281474976710656 ∧ appP 1 1 [.int .u8 0] 5 m K none 0 0 (List.replicate ((n : Int)).toNat [.int .u8 0]).flatten ((n : Int)).toNat
  rw [Int.toNat_natCast]
  refine ⟨by omega, by omega, by omega, by omega, fun h => by omega, fun _ => ⟨[], rfl, fun c b hc hbn => ?_⟩⟩
  rw [Nat.zero_add]
  refine newQ (l := {}) (l' := {}) (J := fun b M => K (.slice (some ⟨b, 0, none⟩) n c) M) H (fun b M f H => ?_) b hbn
  exact k b M c _ (by omega) (by simp; omega) f H
theorem grow_s (n : Nat) (hn : n ≤ 1000000000) : CN Tryz.prog n_slices_Grow_byte_byte [.slice none 0 0, .int .i64 (n : Int)] m fun u A => A = byA T_uint8 u [] := by
  refine slices_Grow_byte_byte_go (by simp [Tryz.f33]) ?_
  have H := Hq.refl m []
  by_cases h0 : n = 0
  · subst h0
    simp (disch := omega) only [go_sem, undef]
    exact ⟨_, rfl, Own.nil _ _ _, Fr.refl _ _, by simp [byA, ownA, blkOf]⟩
  · simp (disch := omega) only [go_sem, undef, dec_f (show ¬ ((n : Nat) : Int) < 0 by omega), dec_t (show ((n : Nat) : Int) > 0 by omega), show (n : Int) - (((0 : Nat) : Int) - ((0 : Nat) : Int)) = (n : Int) from by omega]
    refine appnQ H n (by omega) hn fun b M c l hc hlc f H => ?_
    have H := H.toRow 1 0 c (by omega) (by omega)
    simp only [Nat.zero_mul, List.take_zero] at H
    have hcut : cutS 1 (some ⟨b, 0, none⟩) c 0 0 = some (.slice (some ⟨b, 0, none⟩) 0 c) := by
      unfold cutS
      rw [if_pos (by omega)]
      simp [add_mk]
    simp (disch := omega) only [go_sem, undef, rd_slc01, hcut]
    exact ⟨_, rfl, by simpa [bys, ownA, byA] using H.hs.1, H.fr, fun x hx => (H.done.2.2 x hx).resolve_left (by simp)⟩
theorem F2_two {m : Mem} {va vb : Value} {la lb : Bs} (ha : RdB m va la) (hb : RdB m vb lb) : F2 (fun v l => RdB m v l) [va, vb] [la, lb] := .cons ha (.cons hb .nil)
theorem flatn_take (ls : List Bs) (j : Nat) (x : Bs) (h : ls[j]? = some x) : (ls.take (j + 1)).flatten = (ls.take j).flatten ++ x := by
  rw [List.take_add_one, h, Option.toList_some]; simp
theorem flat_le (ls : List Bs) (j : Nat) : (ls.take j).flatten.length ≤ ls.flatten.length := by
  have : ls.flatten = (ls.take j).flatten ++ (ls.drop j).flatten := by rw [← List.flatten_append, List.take_append_drop]
  rw [this, List.length_append]; omega
set_option maxHeartbeats 4000000 in
theorem concat_s {v : Value} {vs : List Value} {ls : List Bs} (hv : RdS 1 v1 m v vs) (hF : F2 (fun v l => RdB m v l) vs ls) (hl : vs.length ≤ 1000000) (hT : ls.flatten.length ≤ 1000000000) : CN Tryz.prog n_slices_Concat_byte_byte [v] m fun u A => A = byA T_uint8 u ls.flatten := by
  refine slices_Concat_byte_byte_go (by simp [Tryz.f33]) ?_
  have H := Hq.refl m []
  have hvl := F2_len hF
  obtain ⟨a, c, rfl⟩ := hv.form
  simp (disch := omega) only [go_sem, undef]
  refine loopQ_intro (fun k E m' => ∃ j, j ≤ vs.length ∧ k = vs.length - j ∧ E = [(0, .slice a vs.length c), (3, .int .i64 ((ls.take j).flatten.length : Nat)), (9, .slice a vs.length c), (10, .int .i64 (vs.length : Nat)), (11, .int .i64 (j : Nat))] ∧ m' = m) vs.length rfl ⟨0, by omega, by omega, rfl, rfl⟩ ?_
  rintro k E M1 ⟨j, hj, rfl, rfl, rfl⟩
  have ht0 := flat_le ls j
  have ht1 := flat_le ls (j + 1)
  simp (disch := omega) only [go_sem, undef]
  refine condB_dec (fun hlt => ?_) (fun hlt => ?_)
  · have hlt : j < vs.length := by omega
    refine F2_at hF hlt fun r y hr1 hy hR => ?_
    refine RdS.elK hv hlt (by decide) fun bx o r' hr' hix hE => ?_
    rw [hr1] at hr'
    cases hr'
    refine Exists.elim hR.form fun a3 hh => Exists.elim hh fun c3 ev => ?_
    have hsn := flatn_take ls j y hy
    have hsl : (ls.take (j + 1)).flatten.length = (ls.take j).flatten.length + y.length := by rw [hsn, List.length_append]
    generalize (ls.take j).flatten.length = q at *
    simp (disch := omega) only [go_sem, undef, hix, hE.ld0, ev]
    exact handN_intro (vs.length - (j + 1)) (by omega) ⟨j + 1, by omega, rfl, by rw [hsl]; rfl, rfl⟩
  · have e : j = vs.length := by omega
    subst e
    have e2 : ls.take vs.length = ls := by rw [hvl, List.take_length]
    rw [e2]
    clear ht0 ht1
    simp (disch := omega) only [go_sem, undef]
    refine callN H (grow_s _ hT) fun u M A' eA f H => ?_
    subst eA
    simp (disch := omega) only [go_sem, undef]
    refine loopQ_intro (fun k E m' => ∃ j w, j ≤ vs.length ∧ k = vs.length - j ∧ E = [(6, w), (25, .slice a vs.length c), (26, .int .i64 (vs.length : Nat)), (27, .int .i64 (j : Nat))] ∧ Hq M1 m' [] [byA T_uint8 w (ls.take j).flatten]) vs.length rfl ⟨0, u, by omega, by omega, rfl, H⟩ ?_
    clear H f hlt
    rintro k E M2 ⟨j, w, hj, rfl, rfl, H⟩
    simp (disch := omega) only [go_sem, undef]
    refine condB_dec (fun hlt => ?_) (fun hlt => ?_)
    · have hlt : j < vs.length := by omega
      refine F2_at hF hlt fun r y hr1 hy hR => ?_
      refine RdS.elK (hv.frame H.fr) hlt (by decide) fun bx o r' hr' hix hE => ?_
      rw [hr1] at hr'
      cases hr'
      have hR := hR.frame H.fr
      refine Exists.elim hR.form fun a3 hh => Exists.elim hh fun c3 ev => ?_
      subst ev
      have ht0 := flat_le ls j
      have ht1 := flat_le ls (j + 1)
      have hsn := flatn_take ls j y hy
      have hsl : (ls.take (j + 1)).flatten.length = (ls.take j).flatten.length + y.length := by rw [hsn, List.length_append]
      generalize (ls.take j).flatten = q at *
      simp (disch := omega) only [go_sem, undef, hix, hE.ld0]
      refine appQ0 H (k := y.length) rfl (ldS_of hR) (by rw [bys_len]; omega) (bys_one y) rfl (by omega) (by omega) fun w3 M f H => ?_
      have H : Hq M1 M [] [byA T_uint8 w3 (ls.take (j + 1)).flatten] := by
        rw [hsn, ← byA_app]; exact H
      simp (disch := omega) only [go_sem, undef]
      exact handN_intro (vs.length - (j + 1)) (by omega) ⟨j + 1, w3, by omega, rfl, rfl, H⟩
    · have e : j = vs.length := by omega
      subst e
      rw [e2] at H
      simp (disch := omega) only [go_sem, undef]
      exact ⟨_, rfl, H.hs.1, H.fr, fun x hx => (H.done.2.2 x hx).resolve_left (by simp)⟩
end Go.Fw
