import Derived.Test.YtpjecpkkcabnjaaGreatDoorSwC
set_option linter.unusedVariables false
set_option linter.unusedSimpArgs false
/-! Steps as cells; the kinds of lines. -/
namespace Go.Fw
open Go.Proofs Go.Sh
variable {m m0 M : Mem} {S : List Nat} {L : List As}
def stc (s : Stp) (a : Option Addr) (n c : Nat) : List Value := [.int .i64 s.kind, .int .i64 s.n, .int .i64 s.count, .int .i64 s.client, .int .i64 s.ck, .int .i64 s.cc, .int .i64 s.cq, strV s.key, strV s.fin, strV s.old, strV s.val, .slice a n c]
theorem stc_len (s : Stp) (a : Option Addr) (n c : Nat) : (stc s a n c).length = 12 := rfl
theorem stc_all (s : Stp) (a : Option Addr) (n c : Nat) : (stc s a n c).take 12 = stc s a n c := rfl
theorem stc_d0 (s : Stp) (a : Option Addr) (n c : Nat) : ((stc s a n c).drop 0).take 12 = stc s a n c := rfl
theorem stc_lay0 (s : Stp) (a : Option Addr) (n c : Nat) : lay (stc s a n c) [] [] = some (stc s a n c) := rfl
theorem stc_one (s : Stp) (a : Option Addr) (n c : Nat) : (stc s a n c).all Value.oneCell' = true := rfl
theorem stc_layw (s t : Stp) (a b : Option Addr) (n c n' c' : Nat) : lay (stc s a n c) [(0, 12)] [.agg (stc t b n' c').toArray] = some (stc t b n' c') := rfl
theorem stc_g0 (s : Stp) (a : Option Addr) (n c : Nat) : (stc s a n c)[0]? = some (.int .i64 s.kind) := rfl
theorem stc_s0 (s : Stp) (a : Option Addr) (n c : Nat) (x : Int) : (stc s a n c).set 0 (.int .i64 x) = stc { s with kind := x } a n c := rfl
theorem stc_g1 (s : Stp) (a : Option Addr) (n c : Nat) : (stc s a n c)[1]? = some (.int .i64 s.n) := rfl
theorem stc_s1 (s : Stp) (a : Option Addr) (n c : Nat) (x : Int) : (stc s a n c).set 1 (.int .i64 x) = stc { s with n := x } a n c := rfl
theorem stc_g2 (s : Stp) (a : Option Addr) (n c : Nat) : (stc s a n c)[2]? = some (.int .i64 s.count) := rfl
theorem stc_s2 (s : Stp) (a : Option Addr) (n c : Nat) (x : Int) : (stc s a n c).set 2 (.int .i64 x) = stc { s with count := x } a n c := rfl
theorem stc_g3 (s : Stp) (a : Option Addr) (n c : Nat) : (stc s a n c)[3]? = some (.int .i64 s.client) := rfl
theorem stc_s3 (s : Stp) (a : Option Addr) (n c : Nat) (x : Int) : (stc s a n c).set 3 (.int .i64 x) = stc { s with client := x } a n c := rfl
theorem stc_g4 (s : Stp) (a : Option Addr) (n c : Nat) : (stc s a n c)[4]? = some (.int .i64 s.ck) := rfl
theorem stc_s4 (s : Stp) (a : Option Addr) (n c : Nat) (x : Int) : (stc s a n c).set 4 (.int .i64 x) = stc { s with ck := x } a n c := rfl
theorem stc_g5 (s : Stp) (a : Option Addr) (n c : Nat) : (stc s a n c)[5]? = some (.int .i64 s.cc) := rfl
theorem stc_s5 (s : Stp) (a : Option Addr) (n c : Nat) (x : Int) : (stc s a n c).set 5 (.int .i64 x) = stc { s with cc := x } a n c := rfl
theorem stc_g6 (s : Stp) (a : Option Addr) (n c : Nat) : (stc s a n c)[6]? = some (.int .i64 s.cq) := rfl
theorem stc_s6 (s : Stp) (a : Option Addr) (n c : Nat) (x : Int) : (stc s a n c).set 6 (.int .i64 x) = stc { s with cq := x } a n c := rfl
theorem stc_g7 (s : Stp) (a : Option Addr) (n c : Nat) : (stc s a n c)[7]? = some (strV s.key) := rfl
theorem stc_s7 (s : Stp) (a : Option Addr) (n c : Nat) (x : List UInt8) : (stc s a n c).set 7 (strV x) = stc { s with key := x } a n c := rfl
theorem stc_g8 (s : Stp) (a : Option Addr) (n c : Nat) : (stc s a n c)[8]? = some (strV s.fin) := rfl
theorem stc_s8 (s : Stp) (a : Option Addr) (n c : Nat) (x : List UInt8) : (stc s a n c).set 8 (strV x) = stc { s with fin := x } a n c := rfl
theorem stc_g9 (s : Stp) (a : Option Addr) (n c : Nat) : (stc s a n c)[9]? = some (strV s.old) := rfl
theorem stc_s9 (s : Stp) (a : Option Addr) (n c : Nat) (x : List UInt8) : (stc s a n c).set 9 (strV x) = stc { s with old := x } a n c := rfl
theorem stc_g10 (s : Stp) (a : Option Addr) (n c : Nat) : (stc s a n c)[10]? = some (strV s.val) := rfl
theorem stc_s10 (s : Stp) (a : Option Addr) (n c : Nat) (x : List UInt8) : (stc s a n c).set 10 (strV x) = stc { s with val := x } a n c := rfl
theorem stc_g11 (s : Stp) (a : Option Addr) (n c : Nat) : (stc s a n c)[11]? = some (.slice a n c) := rfl
theorem stc_s11 (s : Stp) (a : Option Addr) (n c : Nat) (b : Option Addr) (n' c' : Nat) : (stc s a n c).set 11 (.slice b n' c') = stc s b n' c' := rfl
abbrev Stp.zero : Stp := ⟨0, 0, 0, 0, 0, 0, 0, [], [], [], [], []⟩
theorem stc_fa : Value.agg (List.toArray [Value.int .i64 0, .int .i64 0, .int .i64 0, .int .i64 0, .int .i64 0, .int .i64 0, .int .i64 0, .string ⟨#[]⟩, .string ⟨#[]⟩, .string ⟨#[]⟩, .string ⟨#[]⟩, .slice none 0 0]) = .agg (stc Stp.zero none 0 0).toArray := rfl
theorem stc_fl (ps : List (Nat × Nat)) (vs : List Value) : lay [Value.int .i64 0, .int .i64 0, .int .i64 0, .int .i64 0, .int .i64 0, .int .i64 0, .int .i64 0, .string ⟨#[]⟩, .string ⟨#[]⟩, .string ⟨#[]⟩, .string ⟨#[]⟩, .slice none 0 0] ps vs = lay (stc Stp.zero none 0 0) ps vs := rfl
theorem stc_fc (t : TypeId) (fr : Nat × Nat) : Obj.cells (List.toArray [Value.int .i64 0, .int .i64 0, .int .i64 0, .int .i64 0, .int .i64 0, .int .i64 0, .int .i64 0, .string ⟨#[]⟩, .string ⟨#[]⟩, .string ⟨#[]⟩, .string ⟨#[]⟩, .slice none 0 0]) t fr = .cells (stc Stp.zero none 0 0).toArray t fr := rfl
attribute [go_sem ↓] stc_fa stc_fl stc_fc
attribute [go_sem] stc_len stc_all stc_d0 stc_lay0 stc_one stc_layw stc_g0 stc_s0 stc_g1 stc_s1 stc_g2 stc_s2 stc_g3 stc_s3 stc_g4 stc_s4 stc_g5 stc_s5 stc_g6 stc_s6 stc_g7 stc_s7 stc_g8 stc_s8 stc_g9 stc_s9 stc_g10 stc_s10 stc_g11 stc_s11
def kc (k : List UInt8 × Int × Int) : List Value := [strV k.1, .int .i64 k.2.1, .int .i64 k.2.2, .int .i64 (if k.2.1 = 1 ∨ k.2.1 = 7 then 2 else 1)]
theorem kc_len (k) : (kc k).length = 4 := rfl
theorem kc_0 (k) : (kc k)[0]? = some (strV k.1) := rfl
theorem kc_1 (k) : (kc k)[1]? = some (.int .i64 k.2.1) := rfl
theorem kc_2 (k) : (kc k)[2]? = some (.int .i64 k.2.2) := rfl
theorem kc_all (k) : (kc k).take 4 = kc k := rfl
theorem kc_one (k) : (kc k).all Value.oneCell' = true := rfl
attribute [go_sem] kc_len kc_0 kc_1 kc_2 kc_all kc_one
abbrev kdA (v : Value) : As := ownA T_shell_kind 4 v 13 (kindsL.flatMap kc)
theorem kdA_rd {v : Value} (h : (kdA v).p m) : RdS 4 kc m v kindsL := Own.rds (by omega) kc_len h
theorem bld4 (s : ByteArray) (x y z : Int) : lay [.string ⟨#[]⟩, .int .i64 0, .int .i64 0, .int .i64 0] [(0, 1), (1, 1), (2, 1), (3, 1)] [.string s, .int .i64 x, .int .i64 y, .int .i64 z] = some [.string s, .int .i64 x, .int .i64 y, .int .i64 z] := rfl
def hidL (z : List Value) (l : List (Array Value)) : Option (List Value) := lay z [(0, 4), (4, 4), (8, 4), (12, 4), (16, 4), (20, 4), (24, 4), (28, 4), (32, 4), (36, 4), (40, 4), (44, 4), (48, 4)] (l.map .agg)
theorem lay13 (z : List Value) (a b c d e f g h i j k l n : Array Value) : lay z [(0, 4), (4, 4), (8, 4), (12, 4), (16, 4), (20, 4), (24, 4), (28, 4), (32, 4), (36, 4), (40, 4), (44, 4), (48, 4)] [.agg a, .agg b, .agg c, .agg d, .agg e, .agg f, .agg g, .agg h, .agg i, .agg j, .agg k, .agg l, .agg n] = hidL z [a, b, c, d, e, f, g, h, i, j, k, l, n] := rfl
theorem bL_of {o : Option (List Value)} {l0 : List Value} {K : List Value → Prop} {l : Lk K} (h : o = some l0) (k : K l0) : bL o K l := ⟨l0, h, k⟩
theorem kd_len : (kindsL.flatMap kc).length = 13 * 4 := rfl
theorem kinds_s (m : Mem) : CN Tryz.prog n_shell_kinds [] m fun v A => A = kdA v := by
  refine shell_kinds_go (by simp [Tryz.f33]) ?_
  have H := Hq.refl m []
  simp (disch := omega) only [go_sem, undef, ↓bld4, ↓lay13]
  refine bL_of (l0 := kindsL.flatMap kc ++ []) (by kernel_rfl) ?_
  refine newQ H fun b M f H => ?_
  simp (disch := omega) only [go_sem, undef]
  have H := Hq.ofCell (size := 4) (n := 13) (cap := 13) (xs := kindsL.flatMap kc) (tail := []) H kd_len (by rw [List.append_nil]; exact kd_len)
  exact ⟨_, rfl, cn_end H rfl⟩
theorem fits_go {s : Stp} {a : Option Addr} {n c sb : Nat} {k : List UInt8 × Int × Int} (hb : m sb = some (.cells (stc s a n c).toArray T_api_Step (0, 0))) :
    MC Tryz.prog n_shell_Line_c1 [.agg (kc k).toArray, .pointer (some ⟨sb, 0, none⟩)] m fun u M => u = .bool (fitsK s k) ∧ Fr m M [] := by
  refine shell_Line_c1_go (by simp [Tryz.f33]) ?_
  have H := Hq.refl m []
  simp (disch := omega) only [go_sem, undef]
  refine newQ H fun b M f H => ?_
  have hb2 : M sb = some (.cells (stc s a n c).toArray T_api_Step (0, 0)) := H.fr.get0 hb
  have hcl := H.cs
  unfold fitsK
  by_cases h1 : k.2.1 = s.kind
  · by_cases h2 : k.2.1 = 1
    · by_cases h3 : k.2.2 = s.ck
      · simp (disch := omega) only [go_sem, undef, hcl, hb2, decide_eq_true h1, decide_eq_true h2, decide_eq_true h3]
        exact ⟨by rw [decide_eq_true h1, decide_eq_true h3, Bool.or_true]; rfl, H.fr⟩
      · simp (disch := omega) only [go_sem, undef, hcl, hb2, decide_eq_true h1, decide_eq_true h2, decide_eq_false h3]
        exact ⟨by rw [decide_eq_true h1, decide_eq_false h3, decide_eq_false (by simpa using h2)]; rfl, H.fr⟩
    · simp (disch := omega) only [go_sem, undef, hcl, hb2, decide_eq_true h1, decide_eq_false h2]
      exact ⟨by rw [decide_eq_true h1, decide_eq_true (show k.2.1 ≠ 1 from h2)]; rfl, H.fr⟩
  · simp (disch := omega) only [go_sem, undef, hcl, hb2, decide_eq_false h1]
    exact ⟨by rw [decide_eq_false h1]; rfl, H.fr⟩
def ixO : Option Nat → Int
  | some j => j
  | none => -1
theorem fi_some {α : Type} {p : α → Bool} {l : List α} {j : Nat} {x : α} (h : ∀ t y, t < j → l[t]? = some y → p y = false) (hx : l[j]? = some x) (e : p x = true) : l.findIdx? p = some j := by
  obtain ⟨hj, ex⟩ := List.getElem?_eq_some_iff.1 hx
  rw [List.findIdx?_eq_some_iff_getElem]
  refine ⟨hj, by rw [ex]; exact e, fun t ht => ?_⟩
  have := h t _ ht (List.getElem?_eq_getElem (by omega))
  simp [this]
theorem fi_none {α : Type} {p : α → Bool} {l : List α} (h : ∀ t y, t < l.length → l[t]? = some y → p y = false) : l.findIdx? p = none := by
  rw [List.findIdx?_eq_none_iff]
  intro y hy
  obtain ⟨t, ht⟩ := List.getElem?_of_mem hy
  exact h t y (List.getElem?_eq_some_iff.1 ht).1 ht
set_option maxHeartbeats 4000000 in
theorem idxF_s {a : Option Addr} {c : Nat} {l : List (List UInt8 × Int × Int)} {g : Nat} {cap : Value} {p : (List UInt8 × Int × Int) → Bool} (hr : RdS 4 kc m (.slice a l.length c) l) (hg : callable Tryz.prog g = true)
    (hp : ∀ M, Fr m M [] → ∀ x ∈ l, MC Tryz.prog g [.agg (kc x).toArray, cap] M fun u M' => u = .bool (p x) ∧ Fr M M' []) (hn : l.length ≤ 1000000) :
    MC Tryz.prog n_slices_IndexFunc_shell_kind_shell_kind [.slice a l.length c, .func (.func g) #[] #[cap]] m fun u M => u = .int .i64 (ixO (l.findIdx? p)) ∧ Fr m M [] := by
  refine slices_IndexFunc_shell_kind_shell_kind_go (by simp [Tryz.f33]) ?_
  have H := Hq.refl m []
  simp (disch := omega) only [go_sem, undef]
  refine loopQ_intro (fun k E m' => ∃ j, j ≤ l.length ∧ k = l.length - j ∧ (∀ t y, t < j → l[t]? = some y → p y = false) ∧ E = [(0, .slice a l.length c), (1, .func (.func g) #[] #[cap]), (7, .int .i64 (l.length : Nat)), (8, .int .i64 (j : Nat))] ∧ Hq m m' [] []) l.length rfl ⟨0, by omega, rfl, by simp, rfl, H⟩ ?_
  clear H
  rintro k E M1 ⟨j, hj, rfl, hno, rfl, H⟩
  by_cases hlt : j < l.length
  · refine RdS.elK (hr.frame H.fr) hlt (by decide) fun bx o x hx hix hE => ?_
    simp (disch := omega) only [go_sem, undef, dec_t (show ((j : Nat) : Int) < (l.length : Nat) by omega), hix, hE.lda0, xs_callv, hg, List.nil_append, List.cons_append]
    refine callQ H (hp _ H.fr x (List.mem_of_getElem? hx)) fun M f H => ?_
    cases hpx : p x with
    | true =>
      have hf := fi_some hno hx hpx
      simp (disch := omega) only [go_sem, undef]
      exact ⟨by rw [hf]; rfl, H.fr⟩
    | false =>
      simp (disch := omega) only [go_sem, undef]
      refine handN_intro (l.length - (j + 1)) (by omega) ⟨j + 1, by omega, rfl, fun t y ht hy => ?_, rfl, H⟩
      rcases Nat.lt_or_eq_of_le (Nat.le_of_lt_succ ht) with h | h
      · exact hno t y h hy
      · subst h; rw [hx] at hy; cases hy; exact hpx
  · have e : j = l.length := by omega
    subst e
    have hf := fi_none hno
    simp (disch := omega) only [go_sem, undef, dec_f (show ¬ ((l.length : Nat) : Int) < (l.length : Nat) by omega)]
    exact ⟨by rw [hf]; rfl, H.fr⟩
end Go.Fw
