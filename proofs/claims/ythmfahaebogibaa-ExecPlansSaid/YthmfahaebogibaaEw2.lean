import Derived.Test.YthmfahaebogibaaEw1
import Derived.Test.YthmfahaebogibaaGr
set_option linter.unusedVariables false
set_option linter.unusedSimpArgs false
set_option linter.unusedSimpArgs false
set_option linter.unusedVariables false
namespace Go.Fw
open Go.Proofs
/-- the rows of a graph under way, the walk's own -/
def rowsA (b N : Nat) (f : Nat → Value) (xs : Nat → List Nat) : As where
  fp := b :: (List.range N).flatMap fun p => blkOf (f p)
  wp := b :: (List.range N).flatMap fun p => blkOf (f p)
  sub _ h := h
  p m := Rows m b N f xs
  st := by
    intro m m' h e
    refine ⟨by rw [e b (List.mem_cons_self ..)]; exact h.hb, fun p hp => Own.st (h.own p hp) fun x hx => e x (List.mem_cons_of_mem _ (List.mem_flatMap.2 ⟨p, List.mem_range.2 hp, hx⟩)), h.dis, h.nb⟩
  th := by
    intro m h x hx
    rcases List.mem_cons.1 hx with rfl | hx
    · exact h.there (.inl rfl)
    · obtain ⟨p, hp, hx⟩ := List.mem_flatMap.1 hx
      exact h.there (.inr ⟨p, List.mem_range.1 hp, hx⟩)
theorem rowsA_fp {b N : Nat} {f : Nat → Value} {xs : Nat → List Nat} {x : Nat} : x ∈ (rowsA b N f xs).fp ↔ InRows b N f x := by
  simp only [rowsA, List.mem_cons, List.mem_flatMap, List.mem_range, InRows]
theorem rowsA_wp {b N : Nat} {f : Nat → Value} {xs : Nat → List Nat} {x : Nat} : x ∈ (rowsA b N f xs).wp ↔ InRows b N f x := rowsA_fp (xs := xs)
theorem Hq.rowsNew {m0 m : Mem} {S : List Nat} {L : List As} {b N : Nat} (H : Hq m0 m S L) (hb : m b = none) :
    Hq m0 (m.set b (.cells (rv N fun _ => .slice none 0 0).toArray 55)) S (rowsA b N (fun _ => .slice none 0 0) (fun _ => []) :: L) :=
  H.add (A := rowsA b N (fun _ => .slice none 0 0) (fun _ => [])) Rows.new (Fr.new _ hb) (fun x hx => by rw [inRows_new (rowsA_fp.1 hx)]; exact hb)
theorem appRows {P : Program} {m0 m : Mem} {S : List Nat} {L : List As} {b N bn p x : Nat} {f : Nat → Value} {xs : Nat → List Nat} {T : TypeId} {K : Value → Mem → Prop} {l : Lk K} {l1 : Lk (f p)} {l2 : Lk m}
    (H : Hq m0 m S (cellA bn (.cells [Value.int .i64 (x : Nat)].toArray T (0, 0)) :: rowsA b N f xs :: L)) (hp : p < N) (hl : (xs p).length ≤ 100000)
    (hK : ∀ w M a c, w = .slice a ((xs p).length + 1) c → M b = some (.cells (rv N f).toArray 55 (0, 0)) → Hq m0 (M.set b (.cells (rv N (Up f p w)).toArray 55)) S (rowsA b N (Up f p w) (Up xs p (xs p ++ [x])) :: L) → K w M) :
    appQ P 3 1 8 [.int .i64 0] (f p) (.slice (some ⟨bn, 0, none⟩) 1 1) m K l l1 l2 := by
  have hr : Rows m b N f xs := H.tail.hs.1
  have hc : m bn = some (.cells [Value.int .i64 (x : Nat)].toArray T (0, 0)) := (CellF.h (L := [cellA bn (.cells [Value.int .i64 (x : Nat)].toArray T (0, 0))]) m ⟨H.hs.1, trivial⟩).1
  refine app_own (n := (xs p).length) (k := 1) (c := 1) (news := [.int .i64 (x : Nat)]) (hr.own p hp) rfl (ldS_cell (l := [.int .i64 (x : Nat)]) hc (by simp)) rfl (by simp [Value.oneCell']) rfl (by omega) (by omega) fun w M ho f2 hblk => ?_
  obtain ⟨g1, g2, g3, g4⟩ := hr.step hp (Fr.refl m []) ho f2 hblk
  obtain ⟨a, c, e⟩ := ho.form
  refine hK w M a c e g2 (H.tail.rep0 (A' := rowsA b N (Up f p w) (Up xs p (xs p ++ [x]))) g1 (g3.sub fun y hy => ?_) (fun y hy => ?_) (fun y hy => ?_))
  · refine rowsA_wp.2 ?_
    rcases List.mem_cons.1 hy with rfl | hy
    · exact .inl rfl
    · exact .inr ⟨p, hp, hy⟩
  · exact (g4 y (rowsA_fp.1 hy)).imp (fun h => rowsA_fp.2 h) id
  · exact (g4 y (rowsA_wp.1 hy)).imp (fun h => rowsA_wp.2 h) id

/-! the graph of a row -/
def eB (C : LogL) (S : List I2) (a b : Nat) : Bool := decide (a ≠ b ∧ edgeP (nthI S a) (attC C (nthI S a)).deps (nthI S b))
def eF (C : LogL) (S : List I2) (a : Nat) : List Nat := (List.range S.length).filter (eB C S a)
theorem edgesL_eF (C : LogL) (S : List I2) (a : Nat) : edgesL C S a = (eF C S a).map fun (b : Nat) => (b : Int) := rfl
def xsE (C : LogL) (S : List I2) (a k p : Nat) : List Nat := if p < a then eF C S p else if p = a then (List.range k).filter (eB C S a) else []
theorem xsE_0 (C : LogL) (S : List I2) : xsE C S 0 0 = fun _ => [] := by
  funext p; simp only [xsE, Nat.not_lt_zero, if_false]; split <;> simp
theorem xsE_self (C : LogL) (S : List I2) (a k : Nat) : xsE C S a k a = (List.range k).filter (eB C S a) := by simp [xsE]
theorem xsE_t {C : LogL} {S : List I2} {a k : Nat} (h : eB C S a k = true) : xsE C S a (k + 1) = Up (xsE C S a k) a (xsE C S a k a ++ [k]) := by
  funext p
  by_cases e : p = a
  · subst e; rw [Up_self, xsE_self, xsE_self, List.range_succ, List.filter_append]; simp [h]
  · rw [Up_ne _ e]; simp [xsE, e]
theorem xsE_f {C : LogL} {S : List I2} {a k : Nat} (h : eB C S a k = false) : xsE C S a (k + 1) = xsE C S a k := by
  funext p
  by_cases e : p = a
  · subst e; rw [xsE_self, xsE_self, List.range_succ, List.filter_append]; simp [h]
  · simp [xsE, e]
theorem xsE_end (C : LogL) (S : List I2) (a : Nat) : xsE C S a S.length = xsE C S (a + 1) 0 := by
  funext p
  by_cases e : p = a
  · subst e; rw [xsE_self]; simp [xsE, eF]
  · by_cases h : p < a
    · simp [xsE, h, show p < a + 1 by omega]
    · simp [xsE, h, e, show ¬ p < a + 1 by omega]
theorem xsE_len (C : LogL) (S : List I2) (a k : Nat) (hk : k ≤ S.length) : (xsE C S a k a).length ≤ S.length := by
  rw [xsE_self]; have := List.length_filter_le (eB C S a) (List.range k); rw [List.length_range] at this; omega
theorem rows_grd {m : Mem} {b n : Nat} {f : Nat → Value} {xs : Nat → List Nat} (h : Rows m b n f xs) (hs : ∀ p, p < n → (xs p).length ≤ 1048576) : GRd m n (.slice (some ⟨b, 0, none⟩) n n) fun p => (xs p).map fun (b : Nat) => (b : Int) := by
  refine ⟨_, _, rv n f, rfl, rv_len .., .inr ⟨b, 0, rfl, fun i v hv => by rw [h.hb, cellAt_cells]; simpa using hv⟩, fun v hv => ⟨by simpa using hs v hv, ?_⟩⟩
  obtain ⟨a, c, e, hr⟩ := (h.own v hv).rd
  refine ⟨a, c, by rw [rv_get _ _ _ hv, e, List.length_map], ?_⟩
  have : ints ((xs v).map fun (b : Nat) => (b : Int)) = nats (xs v) := by simp [ints, nats]
  rw [this]; exact hr
set_option maxHeartbeats 8000000 in
theorem exec_edges_s {m : Mem} {pb rm : Nat} {done : Dp} {ov : Value} {C : LogL} (h : PlM m pb rm done ov C) {S : List I2} {sv : Value} (hS : RdS 2 pc m sv S) (hn : S.length ≤ 512) :
    CN Try.prog n_exec_plan_edges [lpp pb, sv] m fun v A => ∃ b f, A = rowsA b S.length f (xsE C S S.length 0) ∧ v = .slice (some ⟨b, 0, none⟩) S.length S.length := by
  refine exec_plan_edges_go (by simp [Try.f46]) ?_
  have H := Hq.refl m []
  obtain ⟨N, hN⟩ : ∃ N, N = S.length := ⟨_, rfl⟩
  obtain ⟨sa, sc, esv⟩ := hS.form
  subst esv
  have hS0 := hS
  rw [← hN] at hn hS ⊢
  simp (disch := omega) only [go_sem, undef]
  refine newO_intro fun b5 hb5 => ?_
  have H := H.rowsNew (N := N) hb5
  generalize m.set b5 (.cells (rv N fun _ => .slice none 0 0).toArray 55) = M at *
  simp (disch := omega) only [go_sem, undef]
  rw [← xsE_0 C S] at H
  refine loopQ_intro (fun n E m' => ∃ a f, a ≤ N ∧ n = N - a ∧ E = [(0, lpp pb), (1, .slice sa N sc), (5, .slice (some ⟨b5, 0, none⟩) N N), (14, .slice sa N sc), (15, .int .i64 (N : Nat)), (16, .int .i64 (a : Nat))] ∧
    Hq m m' [] [rowsA b5 N f (xsE C S a 0)]) N rfl ⟨0, _, by omega, by omega, rfl, H⟩ ?_
  clear H hb5
  rintro n E m' ⟨a, f, ha, rfl, rfl, H⟩
  simp (disch := omega) only [go_sem, undef]
  refine condB_dec (fun hlt => ?_) (fun hlt => ?_)
  · have hlt : a < N := by omega
    simp (disch := omega) only [go_sem, undef]
    refine RdS.elK (hS0.frame H.fr) (i := a) (by omega) (by decide) fun bx o x hx hix hE => ?_
    rw [← hN] at hix
    have hxa : x = nthI S a := by unfold nthI; rw [List.getD_eq_getElem?_getD, hx]; rfl
    simp (disch := omega) only [go_sem, undef, hix, hE.lda0, pc_take]
    refine newQ H fun b7 M f1 H => ?_
    simp (disch := omega) only [go_sem, undef]
    refine stwQ0 H rfl rfl fun M f2 H => ?_
    have hp := h.frame0 H.fr
    simp (disch := omega) only [go_sem, undef, H.cs, hp.box, dv_app7, rd_lkpC0 hp.map, pc_take]
    refine newQ H fun b8 M f3 H => ?_
    have hp := h.frame0 H.fr
    simp (disch := omega) only [go_sem, undef, H.cs, hp.box, dv_app7, rd_lkpC0 hp.map, pc_take]
    have hd8 : attC C x = ((lkC x C).getD Cel.zero).att := rfl
    rw [← hd8]
    obtain ⟨d, hd⟩ : ∃ d, d = (attC C x).deps := ⟨_, rfl⟩
    rw [← hd]
    refine stwQ0 H rfl (dv_one _) fun M f4 H => ?_
    simp (disch := omega) only [go_sem, undef]
    refine loopQ_intro (fun n E m' => ∃ k f, k ≤ N ∧ n = N - k ∧ E = [(0, lpp pb), (1, .slice sa N sc), (5, .slice (some ⟨b5, 0, none⟩) N N), (6, .int .i64 (a : Nat)), (7, lpp b7), (8, lpp b8), (14, .slice sa N sc), (15, .int .i64 (N : Nat)), (16, .int .i64 (a : Nat)), (29, .slice sa N sc), (30, .int .i64 (N : Nat)), (31, .int .i64 (k : Nat))] ∧
      Hq m m' [] [cellA b8 (.cells (dv d).toArray 30 (0, 0)), cellA b7 (.cells (pc x).toArray 23 (0, 0)), rowsA b5 N f (xsE C S a k)]) N rfl ⟨0, f, by omega, by omega, rfl, H⟩ ?_
    clear H hix hE f1 f2 f3 f4 hp hd8
    rintro n E m' ⟨k, f, hk, rfl, rfl, H⟩
    simp (disch := omega) only [go_sem, undef]
    refine condB_dec (fun hlk => ?_) (fun hlk => ?_)
    · have hlk : k < N := by omega
      simp (disch := omega) only [go_sem, undef]
      refine RdS.elK (hS0.frame H.fr) (i := k) (by omega) (by decide) fun bx o y hy hiy hE => ?_
      rw [← hN] at hiy
      have hyk : y = nthI S k := by unfold nthI; rw [List.getD_eq_getElem?_getD, hy]; rfl
      have heb : eB C S a k = decide (a ≠ k ∧ edgeP x d y) := by unfold eB; rw [← hxa, ← hyk, ← hd]
      simp (disch := omega) only [go_sem, undef, hiy, hE.lda0, pc_take]
      refine newQ H fun b10 M f1 H => ?_
      simp (disch := omega) only [go_sem, undef]
      refine stwQ0 H rfl rfl fun M f2 H => ?_
      simp (disch := omega) only [go_sem, undef, H.cs, pc_take]
      by_cases eak : a = k
      · simp (disch := omega) only [go_sem, undef, dec_t (show (a : Int) = (k : Int) by omega)]
        rw [← xsE_f (k := k) (by rw [heb]; simp [eak])] at H
        exact handN_intro (N - (k + 1)) (by omega) ⟨k + 1, f, by omega, rfl, rfl, dropQ0 H⟩
      · have nak : ¬ (a : Int) = (k : Int) := by omega
        simp (disch := omega) only [go_sem, undef, dec_f nak, H.cs, pc_take, dv_all]
        refine callQ H (deps_Reach_s d y M) fun M f3 H => ?_
        have hrb := (H.at 3 rfl : Rows M b5 N f (xsE C S a k)).hb
        by_cases hr : rightI y ∧ y.2 ≤ d.g y.1.toNat
        · simp (disch := omega) only [go_sem, undef, dec_f nak, dec_t hr, hrb]
          refine newQ H fun b11 M f3 H => ?_
          have hrb := (H.at 4 rfl : Rows M b5 N f (xsE C S a k)).hb
          simp (disch := omega) only [go_sem, undef, hrb]
          have H := (H.up 4 rfl).up 1 rfl
          refine appRows H hlt (by have := xsE_len C S a k (by omega); omega) fun w M wa wc ew hrb H => ?_
          subst ew
          simp (disch := omega) only [go_sem, undef, hrb, wrO]
          rw [← xsE_t (by rw [heb]; simp [eak, edgeP, hr])] at H
          have H := downQ2 (dropQ1 H)
          exact handN_intro (N - (k + 1)) (by omega) ⟨k + 1, _, by omega, rfl, rfl, H⟩
        · simp (disch := omega) only [go_sem, undef, dec_f nak, dec_f hr, H.cs]
          by_cases h1 : y.1 = x.1
          · by_cases h2 : y.2 < x.2
            · simp (disch := omega) only [go_sem, undef, dec_f nak, dec_t h1, dec_t h2, H.cs, hrb, dec_f hr]
              refine newQ H fun b11 M f3 H => ?_
              have hrb := (H.at 4 rfl : Rows M b5 N f (xsE C S a k)).hb
              simp (disch := omega) only [go_sem, undef, hrb]
              have H := (H.up 4 rfl).up 1 rfl
              refine appRows H hlt (by have := xsE_len C S a k (by omega); omega) fun w M wa wc ew hrb H => ?_
              subst ew
              simp (disch := omega) only [go_sem, undef, hrb, wrO]
              rw [← xsE_t (by rw [heb]; simp [eak, edgeP, h1, h2])] at H
              have H := downQ2 (dropQ1 H)
              exact handN_intro (N - (k + 1)) (by omega) ⟨k + 1, _, by omega, rfl, rfl, H⟩
            · simp (disch := omega) only [go_sem, undef, dec_f nak, dec_t h1, dec_f h2, H.cs, dec_f hr]
              rw [← xsE_f (k := k) (by rw [heb]; simp [edgeP, hr, h2])] at H
              exact handN_intro (N - (k + 1)) (by omega) ⟨k + 1, f, by omega, rfl, rfl, dropQ0 H⟩
          · simp (disch := omega) only [go_sem, undef, dec_f nak, dec_f h1, H.cs, dec_f hr]
            rw [← xsE_f (k := k) (by rw [heb]; simp [edgeP, hr, h1])] at H
            exact handN_intro (N - (k + 1)) (by omega) ⟨k + 1, f, by omega, rfl, rfl, dropQ0 H⟩
    · have e : k = N := by omega
      subst e
      have H := dropQ0 (dropQ0 H)
      rw [hN, xsE_end, ← hN] at H
      simp (disch := omega) only [go_sem, undef]
      exact handN_intro (k - (a + 1)) (by omega) ⟨a + 1, f, by omega, rfl, rfl, H⟩
  · have e : N = a := by omega
    subst e
    simp (disch := omega) only [go_sem, undef]
    exact ⟨_, ⟨b5, f, rfl, rfl⟩, H.at 0 rfl, H.fr, fun b hb => (H.nw _ (List.mem_cons_self ..) b hb).resolve_right (by simp)⟩
end Go.Fw

set_option linter.unusedSimpArgs false
set_option linter.unusedVariables false
namespace Go.Fw
open Go.Proofs
theorem sort_nil_l {key : Nat → Int} {X Y : List Nat} (h : X = [] ∨ Y = []) (hX : X.Pairwise (ltK key)) (hY : Y.Pairwise (ltK key)) : SortOf key (X ++ Y) (X ++ Y) := by
  refine ⟨List.Perm.refl _, ?_⟩
  rcases h with rfl | rfl
  · simpa using hY
  · simpa using hX
set_option maxHeartbeats 8000000 in
theorem symTail_s {g cap n0 : Nat} {cl : List Value} {key : Nat → Int} {S : Nat → Prop} {b : Nat} {tail : List Value} (hl : n0 ≤ 1000) {N : Nat} (IH : SymOK g cap n0 cl key S b tail N) {m m' : Mem} {A L R B : List Nat} {a mi e mid i en s t : Nat}
    (hb' : m' b = some (dcell (A ++ (L ++ (R ++ B))) tail)) (hf : Fr m m' [b]) (hL : L.Pairwise (ltK key)) (hR : R.Pairwise (ltK key)) (hx : ∀ x ∈ L, ∀ y ∈ R, key x = key y → x < y) (hS : ∀ x ∈ L ++ R, S x) (hc : CmpK g cl key S m b) (hn0 : (A ++ (L ++ (R ++ B))).length = n0)
    (ha : A.length = a) (hmi : a + L.length = mi) (he : mi + R.length = e) (hN : L.length + R.length ≤ N + 1) (hmb : a < mid ∧ mid < e) (hen : en + i = mid + mi) (hse : a ≤ i ∧ i ≤ mi ∧ mi ≤ en ∧ en ≤ e ∧ i ≤ mid) (hs : s = i - a) (ht : t = en - mi)
    (hcross : ∀ x ∈ L.take s ++ R.take t, ∀ y ∈ L.drop s ++ R.drop t, ltK key x y) :
    wpN Try.prog ((slices_symMergeCmpFunc_int_r39.seq (NC.cond (X.slot 185) slices_symMergeCmpFunc_int_r40 NC.skip)).seq
              ((slices_symMergeCmpFunc_int_r41.seq (NC.cond (X.slot 199) slices_symMergeCmpFunc_int_r42 NC.skip)).seq
                (slices_symMergeCmpFunc_int_r43.seq (NC.cond (X.slot 213) slices_symMergeCmpFunc_int_r44 NC.skip))))
          (retP [] fun v M => v = Value.tuple #[] ∧ (∃ Z, SortOf key Z (L ++ R) ∧ M b = some (dcell (A ++ (Z ++ B)) tail)) ∧ Fr m M [b])
        [(0, .slice (some ⟨b, 0, none⟩) n0 cap), (1, .int .i64 (a : Nat)), (2, .int .i64 (mi : Nat)), (3, .int .i64 (e : Nat)), (4, .func (.func g) #[] cl.toArray), (18, .int .i64 (mid : Nat)), (20, .int .i64 (i : Nat)), (24, .int .i64 (en : Nat))] m' := by
  have hn1 : a + (L.length + (R.length + B.length)) = n0 := by rw [← hn0, ← ha]; simp
  have hU : (L.take s).length = s := by rw [List.length_take]; omega
  have hW2 : (R.take t).length = t := by rw [List.length_take]; omega
  have hW1 : (L.drop s).length = mi - i := by rw [List.length_drop]; omega
  have hV : (R.drop t).length = e - en := by rw [List.length_drop]; omega
  have key3 : ∀ (E : Env) (M : Mem) (Z1 : List Nat), E.get 0 = .slice (some ⟨b, 0, none⟩) n0 cap → E.get 3 = .int .i64 (e : Nat) → E.get 4 = .func (.func g) #[] cl.toArray → E.get 18 = .int .i64 (mid : Nat) → E.get 24 = .int .i64 (en : Nat) → E.has 0 = true → E.has 3 = true → E.has 4 = true → E.has 18 = true → E.has 24 = true →
      SortOf key Z1 (L.take s ++ R.take t) → M b = some (dcell (A ++ (Z1 ++ ((L.drop s ++ R.drop t) ++ B))) tail) → Fr m M [b] →
      wpN Try.prog (slices_symMergeCmpFunc_int_r43.seq (NC.cond (X.slot 213) slices_symMergeCmpFunc_int_r44 NC.skip)) (retP [] fun v M => v = Value.tuple #[] ∧ (∃ Z, SortOf key Z (L ++ R) ∧ M b = some (dcell (A ++ (Z ++ B)) tail)) ∧ Fr m M [b]) E M := by
    intro E M Z1 g0 g3 g4 g18 g24 k0 k3 k4 k18 k24 hZ1 hM hfM
    have hZl : Z1.length = s + t := by rw [hZ1.1.length_eq, List.length_append, hU, hW2]
    by_cases h1 : mid < en
    · by_cases h2 : en < e
      · simp (disch := omega) only [go_sem, undef, g0, g3, g4, g18, g24, k0, k3, k4, k18, k24, dec_t (show (mid : Int) < en by omega), dec_t (show (en : Int) < e by omega)]
        refine call_with (IH M (A ++ Z1) (L.drop s) (R.drop t) B mid en e (by rw [hM]; simp) (by rw [← List.length_pos_iff]; omega) (by rw [← List.length_pos_iff]; omega) (hL.sublist (List.drop_sublist _ _)) (hR.sublist (List.drop_sublist _ _)) (fun x h y h' => hx x (List.mem_of_mem_drop h) y (List.mem_of_mem_drop h')) (fun x h => hS x ?_) (hc.to hfM) (by rw [← hn1]; simp; omega) (by rw [List.length_append]; omega) (by omega) (by omega) (by omega)) ?_
        · rcases List.mem_append.1 h with h | h
          · exact List.mem_append_left _ (List.mem_of_mem_drop h)
          · exact List.mem_append_right _ (List.mem_of_mem_drop h)
        · rintro v M2 ⟨rfl, ⟨Z2, hZ2, hM2⟩, hf2⟩
          simp (disch := omega) only [go_sem, undef]
          exact ⟨rfl, ⟨Z1 ++ Z2, merge_join hcross hZ1 hZ2, by rw [hM2]; simp⟩, hfM.transS hf2⟩
      · simp (disch := omega) only [go_sem, undef, g0, g3, g4, g18, g24, k0, k3, k4, k18, k24, dec_t (show (mid : Int) < en by omega), dec_f (show ¬ (en : Int) < e by omega)]
        have hVn : R.drop t = [] := List.eq_nil_of_length_eq_zero (by omega)
        exact ⟨rfl, ⟨Z1 ++ (L.drop s ++ R.drop t), merge_join hcross hZ1 (sort_nil_l (.inr hVn) (hL.sublist (List.drop_sublist _ _)) (hR.sublist (List.drop_sublist _ _))), by rw [hM]; simp⟩, hfM⟩
    · simp (disch := omega) only [go_sem, undef, g0, g3, g4, g18, g24, k0, k3, k4, k18, k24, dec_f (show ¬ (mid : Int) < en by omega)]
      have hWn : L.drop s = [] := List.eq_nil_of_length_eq_zero (by omega)
      exact ⟨rfl, ⟨Z1 ++ (L.drop s ++ R.drop t), merge_join hcross hZ1 (sort_nil_l (.inl hWn) (hL.sublist (List.drop_sublist _ _)) (hR.sublist (List.drop_sublist _ _))), by rw [hM]; simp⟩, hfM⟩
  have key2 : ∀ (E : Env) (M : Mem), E.get 0 = .slice (some ⟨b, 0, none⟩) n0 cap → E.get 1 = .int .i64 (a : Nat) → E.get 3 = .int .i64 (e : Nat) → E.get 4 = .func (.func g) #[] cl.toArray → E.get 18 = .int .i64 (mid : Nat) → E.get 20 = .int .i64 (i : Nat) → E.get 24 = .int .i64 (en : Nat) → E.has 0 = true → E.has 1 = true → E.has 3 = true → E.has 4 = true → E.has 18 = true → E.has 20 = true → E.has 24 = true →
      M b = some (dcell (A ++ ((L.take s ++ R.take t) ++ ((L.drop s ++ R.drop t) ++ B))) tail) → Fr m M [b] →
      wpN Try.prog ((slices_symMergeCmpFunc_int_r41.seq (NC.cond (X.slot 199) slices_symMergeCmpFunc_int_r42 NC.skip)).seq (slices_symMergeCmpFunc_int_r43.seq (NC.cond (X.slot 213) slices_symMergeCmpFunc_int_r44 NC.skip))) (retP [] fun v M => v = Value.tuple #[] ∧ (∃ Z, SortOf key Z (L ++ R) ∧ M b = some (dcell (A ++ (Z ++ B)) tail)) ∧ Fr m M [b]) E M := by
    intro E M g0 g1 g3 g4 g18 g20 g24 k0 k1 k3 k4 k18 k20 k24 hM hfM
    generalize hC : (slices_symMergeCmpFunc_int_r43.seq (NC.cond (X.slot 213) slices_symMergeCmpFunc_int_r44 NC.skip)) = C at *
    by_cases h1 : a < i
    · by_cases h2 : i < mid
      · simp (disch := omega) only [go_sem, undef, g0, g1, g3, g4, g18, g20, g24, k0, k1, k3, k4, k18, k20, k24, dec_t (show (a : Int) < i by omega), dec_t (show (i : Int) < mid by omega)]
        refine call_with (IH M A (L.take s) (R.take t) ((L.drop s ++ R.drop t) ++ B) a i mid (by rw [hM]; simp) (by rw [← List.length_pos_iff]; omega) (by rw [← List.length_pos_iff]; omega) (hL.sublist (List.take_sublist _ _)) (hR.sublist (List.take_sublist _ _)) (fun x h y h' => hx x (List.mem_of_mem_take h) y (List.mem_of_mem_take h')) (fun x h => hS x ?_) (hc.to hfM) (by rw [← hn1]; simp; omega) ha (by omega) (by omega) (by omega)) ?_
        · rcases List.mem_append.1 h with h | h
          · exact List.mem_append_left _ (List.mem_of_mem_take h)
          · exact List.mem_append_right _ (List.mem_of_mem_take h)
        · rintro v M2 ⟨rfl, ⟨Z1, hZ1, hM2⟩, hf2⟩
          simp (disch := omega) only [go_sem, undef, g0, g1, g3, g4, g18, g20, g24, k0, k1, k3, k4, k18, k20, k24]
          refine key3 _ M2 Z1 rfl rfl rfl rfl rfl rfl rfl rfl rfl rfl hZ1 hM2 (hfM.transS hf2)
      · simp (disch := omega) only [go_sem, undef, g0, g1, g3, g4, g18, g20, g24, k0, k1, k3, k4, k18, k20, k24, dec_t (show (a : Int) < i by omega), dec_f (show ¬ (i : Int) < mid by omega)]
        have hn : R.take t = [] := List.eq_nil_of_length_eq_zero (by omega)
        exact key3 _ M _ rfl rfl rfl rfl rfl rfl rfl rfl rfl rfl (sort_nil_l (.inr hn) (hL.sublist (List.take_sublist _ _)) (hR.sublist (List.take_sublist _ _))) hM hfM
    · simp (disch := omega) only [go_sem, undef, g0, g1, g3, g4, g18, g20, g24, k0, k1, k3, k4, k18, k20, k24, dec_f (show ¬ (a : Int) < i by omega)]
      have hn : L.take s = [] := List.eq_nil_of_length_eq_zero (by omega)
      exact key3 _ M _ rfl rfl rfl rfl rfl rfl rfl rfl rfl rfl (sort_nil_l (.inl hn) (hL.sublist (List.take_sublist _ _)) (hR.sublist (List.take_sublist _ _))) hM hfM
  generalize hC : ((slices_symMergeCmpFunc_int_r41.seq (NC.cond (X.slot 199) slices_symMergeCmpFunc_int_r42 NC.skip)).seq (slices_symMergeCmpFunc_int_r43.seq (NC.cond (X.slot 213) slices_symMergeCmpFunc_int_r44 NC.skip))) = C at *
  have hsame : (i = mi ∨ en = mi) → A ++ (L ++ (R ++ B)) = A ++ ((L.take s ++ R.take t) ++ ((L.drop s ++ R.drop t) ++ B)) := by
    rintro (h | h)
    · have h1 : L.drop s = [] := List.eq_nil_of_length_eq_zero (by omega)
      have h2 : L.take s = L := List.take_of_length_le (by omega)
      rw [h1, h2]
      simp only [List.nil_append, List.append_assoc]
      rw [← List.append_assoc (R.take t), List.take_append_drop]
    · have h1 : R.take t = [] := List.eq_nil_of_length_eq_zero (by omega)
      have h2 : R.drop t = R := by rw [show t = 0 by omega]; rfl
      rw [h1, h2]
      simp only [List.append_nil, List.append_assoc]
      rw [← List.append_assoc (L.take s), List.take_append_drop]
  by_cases h1 : i < mi
  · by_cases h2 : mi < en
    · have hd : (A ++ (L ++ (R ++ B))).length = n0 := hn0
      have hro := rotate_s (cap := cap) hb' i mi en h1 h2 (by omega) (by omega) (.func (.func g) #[] cl.toArray)
      rw [hd] at hro
      have hlist : (A ++ (L ++ (R ++ B))).take i ++ (((A ++ (L ++ (R ++ B))).drop mi).take (en - mi) ++ (((A ++ (L ++ (R ++ B))).drop i).take (mi - i) ++ (A ++ (L ++ (R ++ B))).drop en)) = A ++ ((L.take s ++ R.take t) ++ ((L.drop s ++ R.drop t) ++ B)) := by
        have hAL : (A ++ L).length = mi := by rw [List.length_append]; omega
        have d1 : (A ++ (L ++ (R ++ B))).drop mi = R ++ B := by rw [← List.append_assoc, ← hAL, List.drop_left]
        have d2 : (A ++ (L ++ (R ++ B))).take i = A ++ L.take s := by
          rw [List.take_append, List.take_of_length_le (by omega), ha, ← hs, List.take_append_of_le_length (by omega)]
        have d3 : (A ++ (L ++ (R ++ B))).drop i = L.drop s ++ (R ++ B) := by
          rw [List.drop_append, List.drop_eq_nil_iff.2 (by omega), ha, ← hs, List.nil_append, List.drop_append_of_le_length (by omega)]
        have d4 : (A ++ (L ++ (R ++ B))).drop en = R.drop t ++ B := by
          have : (A ++ (L ++ (R ++ B))).drop en = ((A ++ (L ++ (R ++ B))).drop mi).drop t := by rw [List.drop_drop]; congr 1; omega
          rw [this, d1, List.drop_append_of_le_length (by omega)]
        rw [d1, d2, d3, d4, ← ht, List.take_append_of_le_length (by omega), List.take_append_of_le_length (by omega), List.take_of_length_le (l := L.drop s) (by omega)]
        simp
      rw [hlist] at hro
      simp (disch := omega) only [go_sem, undef, dec_t (show (i : Int) < mi by omega), dec_t (show (mi : Int) < en by omega)]
      refine call_with hro ?_
      rintro v M ⟨rfl, hM, hfM⟩
      simp (disch := omega) only [go_sem, undef]
      exact key2 _ M rfl rfl rfl rfl rfl rfl rfl rfl rfl rfl rfl rfl rfl rfl hM (hf.transS hfM)
    · simp (disch := omega) only [go_sem, undef, dec_t (show (i : Int) < mi by omega), dec_f (show ¬ (mi : Int) < en by omega)]
      rw [hsame (.inr (by omega))] at hb'
      exact key2 _ _ rfl rfl rfl rfl rfl rfl rfl rfl rfl rfl rfl rfl rfl rfl hb' hf
  · simp (disch := omega) only [go_sem, undef, dec_f (show ¬ (i : Int) < mi by omega)]
    rw [hsame (.inl (by omega))] at hb'
    exact key2 _ _ rfl rfl rfl rfl rfl rfl rfl rfl rfl rfl rfl rfl rfl rfl hb' hf
end Go.Fw

set_option linter.unusedSimpArgs false
set_option linter.unusedVariables false
namespace Go.Fw
open Go.Proofs
set_option maxHeartbeats 8000000 in
theorem symMerge_step {g cap n0 : Nat} {cl : List Value} {key : Nat → Int} {S : Nat → Prop} {b : Nat} {tail : List Value} (hl : n0 ≤ 1000) {N : Nat} (IH : SymOK g cap n0 cl key S b tail N) : SymOK g cap n0 cl key S b tail (N + 1) := by
    intro m A L R B a mi e hb hL0 hR0 hL hR hx hS hc hn0 ha hmi he hN
    have hp1 := List.length_pos_iff.2 hL0
    have hq1 := List.length_pos_iff.2 hR0
    have hn1 : a + (L.length + (R.length + B.length)) = n0 := by rw [← hn0, ← ha]; simp
    refine slices_symMergeCmpFunc_int_go (by simp [Try.f33]) ?_
    simp (disch := omega) only [go_sem, undef]
    by_cases h1 : L.length = 1
    · obtain ⟨x, rfl⟩ := List.length_eq_one_iff.1 h1
      have hSx : S x := hS x (by simp)
      simp (disch := omega) only [go_sem, undef, dec_t (show (mi : Int) - a = 1 by omega)]
      refine loopQ_intro (fun n E m' => ∃ i j, mi ≤ i ∧ i ≤ j ∧ j ≤ e ∧ n = j - i ∧ E = [(0, .slice (some ⟨b, 0, none⟩) n0 cap), (1, .int .i64 (a : Nat)), (4, .func (.func g) #[] cl.toArray), (10, .int .i64 (i : Nat)), (11, .int .i64 (j : Nat))] ∧
        (∀ k, k + mi < i → key (R.getD k 0) < key x) ∧ (∀ k, j ≤ k + mi → k < R.length → ¬ key (R.getD k 0) < key x) ∧ m' b = some (dcell (A ++ ([x] ++ (R ++ B))) tail) ∧ Fr m m' [b]) (e - mi) rfl ⟨mi, e, by omega, by omega, by omega, rfl, rfl, by omega, by omega, hb, Fr.refl _ _⟩ ?_
      rintro n E m' ⟨i, j, hi1, hij, hj, rfl, rfl, hlow, hhigh, hb', hf⟩
      have hu := half_u i j (by omega)
      simp (disch := omega) only [go_sem, undef]
      refine condB_dec (fun hlt => ?_) (fun hlt => ?_)
      · have hij2 : i < j := by omega
        have hd2 : (i + j) / 2 < j ∧ i ≤ (i + j) / 2 := by omega
        obtain ⟨h, hh⟩ : ∃ h, h = (i + j) / 2 := ⟨_, rfl⟩
        have hlen : (A ++ ([x] ++ (R ++ B))).length = n0 := hn0
        obtain ⟨d, hd⟩ : ∃ d, d = A ++ ([x] ++ (R ++ B)) := ⟨_, rfl⟩
        have gh : d.getD h 0 = R.getD (h - mi) 0 := by
          rw [hd, getD_right (by omega) (by simp; omega)]
          congr 1; simp; omega
        have gx : d.getD a 0 = x := by rw [hd, ← ha]; exact getD_app A x (R ++ B) 0
        have hRin : R.getD (h - mi) 0 ∈ R := getD_in (by omega)
        rw [← hd] at hb' hlen
        simp (disch := omega) only [go_sem, undef, hu, u64_nat (i + j) (by omega), half_rd, ← hh]
        simp (disch := omega) only [go_sem, undef, hb', nats_get, Int.toNat_natCast, gh, gx, nats_len]
        refine callv_s hc hf (hS _ (List.mem_append_right _ hRin)) hSx fun M hfM => ?_
        have hbM := hfM.get0 hb'
        have hf2 := hf.trans0 hfM
        by_cases hk : key (R.getD (h - mi) 0) < key x
        · simp (disch := omega) only [go_sem, undef, cmpI_neg, dec_t hk]
          refine handN_intro (j - (h + 1)) (by omega) ⟨h + 1, j, by omega, by omega, by omega, rfl, rfl, fun k hk2 => ?_, hhigh, by rw [hd] at hbM; simpa using hbM, hf2⟩
          have := kmono hR (i := k) (j := h - mi) (by omega) (by omega)
          omega
        · simp (disch := omega) only [go_sem, undef, cmpI_neg, dec_f hk]
          refine handN_intro (h - i) (by omega) ⟨i, h, by omega, by omega, by omega, rfl, rfl, hlow, fun k hk2 hk3 => ?_, by rw [hd] at hbM; simpa using hbM, hf2⟩
          have := kmono hR (i := h - mi) (j := k) (by omega) hk3
          omega
      · have hije : i = j := by omega
        subst hije
        obtain ⟨t, ht⟩ : ∃ t, t = i - mi := ⟨_, rfl⟩
        have hZ : SortOf key (R.take t ++ x :: R.drop t) ([x] ++ R) := by
          refine ⟨?_, ?_⟩
          · refine List.perm_middle.trans ?_
            rw [List.take_append_drop]; exact List.Perm.refl _
          · refine List.pairwise_append.2 ⟨hR.sublist (List.take_sublist _ _), List.pairwise_cons.2 ⟨fun y hy => ?_, hR.sublist (List.drop_sublist _ _)⟩, fun y hy z hz => ?_⟩
            · obtain ⟨k, hk, ek⟩ := drop_at hy
              have hkl := (List.getElem?_eq_some_iff.1 ek).1
              have := hhigh k (by omega) hkl
              rw [List.getD_eq_getElem?_getD, ek] at this
              have h2 := hx x (by simp) y (List.mem_of_getElem? ek)
              simp only [Option.getD_some] at this
              unfold ltK; omega
            · obtain ⟨k, hk, ek⟩ := take_at hy
              have := hlow k (by omega)
              rw [List.getD_eq_getElem?_getD, ek] at this
              simp only [Option.getD_some] at this
              rcases List.mem_cons.1 hz with rfl | hz
              · unfold ltK; omega
              · obtain ⟨k2, hk2, ek2⟩ := drop_at hz
                exact pw_at hR (by omega) ek ek2
        simp (disch := omega) only [go_sem, undef]
        refine loopQ_intro (fun n E m' => ∃ k, k ≤ t ∧ n = t - k ∧ E = [(0, .slice (some ⟨b, 0, none⟩) n0 cap), (10, .int .i64 (i : Nat)), (13, .int .i64 ((a + k : Nat) : Int))] ∧ m' b = some (dcell (A ++ (R.take k ++ x :: (R.drop k ++ B))) tail) ∧ Fr m m' [b]) t rfl ⟨0, by omega, rfl, rfl, by simpa using hb', hf⟩ ?_
        clear hb' hf
        rintro n E m' ⟨k, hk, rfl, rfl, hb', hf⟩
        have eik : ((i : Nat) : Int) - 1 = ((a + t : Nat) : Int) := by
          simp only [List.length_cons, List.length_nil] at hmi; omega
        simp (disch := omega) only [go_sem, undef, eik]
        refine condB_dec (fun hlt => ?_) (fun hlt => ?_)
        · have hkt : k < t := by omega
          have hkR : k < R.length := by omega
          obtain ⟨r, hr⟩ : ∃ r, R.getD k 0 = r := ⟨_, rfl⟩
          have er := getD_some hkR
          rw [hr] at er
          have hdrop : R.drop k = r :: R.drop (k + 1) := by
            rw [List.drop_eq_getElem_cons hkR]
            congr 1
            exact (List.getElem?_eq_some_iff.1 er).2
          have htake : R.take (k + 1) = R.take k ++ [r] := by rw [List.take_add_one, er]; rfl
          obtain ⟨d, hd⟩ : ∃ d, d = A ++ (R.take k ++ x :: (R.drop k ++ B)) := ⟨_, rfl⟩
          obtain ⟨p, hp⟩ : ∃ p, p = a + k := ⟨_, rfl⟩
          have hd2 : d = (A ++ R.take k) ++ x :: r :: (R.drop (k + 1) ++ B) := by rw [hd, hdrop]; simp
          have hpl : (A ++ R.take k).length = p := by rw [List.length_append, List.length_take, ha, hp]; omega
          have gx : d.getD p 0 = x := by rw [hd2, ← hpl, getD_app]
          have gr : d.getD (p + 1) 0 = r := by
            rw [hd2, show (A ++ R.take k) ++ x :: r :: (R.drop (k + 1) ++ B) = ((A ++ R.take k) ++ [x]) ++ r :: (R.drop (k + 1) ++ B) by simp, show p + 1 = ((A ++ R.take k) ++ [x]).length by rw [List.length_append, hpl]; rfl, getD_app]
          have hsw : swp d p (p + 1) = A ++ (R.take (k + 1) ++ x :: (R.drop (k + 1) ++ B)) := by
            rw [hd2, ← hpl, swp_adj2, htake]; simp
          have hdl : d.length = n0 := by
            rw [hd2, ← hn1]; simp; omega
          rw [← hd] at hb'
          have e1 : ((p : Nat) : Int) + 1 = ((p + 1 : Nat) : Int) := by omega
          have e3 : (d.set p (d.getD (p + 1) 0)).length = d.length := by simp
          rw [← hp]
          simp (disch := omega) only [go_sem, undef, hb', nats_get, nats_set, e1, Int.toNat_natCast, nats_len, setIn, wrO, set_self, e3]
          refine handN_intro (t - (k + 1)) (by omega) ⟨k + 1, by omega, rfl, by rw [hp]; rfl, ?_, hf.transS (Fr.set (List.mem_singleton.2 rfl))⟩
          rw [set_self]
          show some (dcell (swp d p (p + 1)) tail) = _
          rw [hsw]
        · have : k = t := by omega
          subst this
          simp (disch := omega) only [go_sem, undef]
          refine ⟨rfl, ⟨_, hZ, ?_⟩, hf⟩
          simpa using hb'
    by_cases h2 : R.length = 1
    · obtain ⟨y, rfl⟩ := List.length_eq_one_iff.1 h2
      have hSy : S y := hS y (by simp)
      simp (disch := omega) only [go_sem, undef, dec_f (show ¬ (mi : Int) - a = 1 by omega), dec_t (show (e : Int) - mi = 1 by simp only [List.length_cons, List.length_nil] at he; omega)]
      refine loopQ_intro (fun n E m' => ∃ i j, a ≤ i ∧ i ≤ j ∧ j ≤ mi ∧ n = j - i ∧ E = [(0, .slice (some ⟨b, 0, none⟩) n0 cap), (2, .int .i64 (mi : Nat)), (4, .func (.func g) #[] cl.toArray), (14, .int .i64 (i : Nat)), (15, .int .i64 (j : Nat))] ∧
        (∀ k, k + a < i → ¬ key y < key (L.getD k 0)) ∧ (∀ k, j ≤ k + a → k < L.length → key y < key (L.getD k 0)) ∧ m' b = some (dcell (A ++ (L ++ ([y] ++ B))) tail) ∧ Fr m m' [b]) (mi - a) rfl ⟨a, mi, by omega, by omega, by omega, rfl, rfl, by omega, by omega, hb, Fr.refl _ _⟩ ?_
      rintro n E m' ⟨i, j, hi1, hij, hj, rfl, rfl, hlow, hhigh, hb', hf⟩
      have hu := half_u i j (by omega)
      simp (disch := omega) only [go_sem, undef]
      refine condB_dec (fun hlt => ?_) (fun hlt => ?_)
      · have hij2 : i < j := by omega
        have hd2 : (i + j) / 2 < j ∧ i ≤ (i + j) / 2 := by omega
        obtain ⟨h, hh⟩ : ∃ h, h = (i + j) / 2 := ⟨_, rfl⟩
        have hlen : (A ++ (L ++ ([y] ++ B))).length = n0 := hn0
        obtain ⟨d, hd⟩ : ∃ d, d = A ++ (L ++ ([y] ++ B)) := ⟨_, rfl⟩
        have gh : d.getD h 0 = L.getD (h - a) 0 := by
          rw [hd, getD_mid (by omega) (by omega), ha]
        have gy : d.getD mi 0 = y := by
          rw [hd, getD_right (by omega) (by simp; omega)]
          rw [show mi - A.length - L.length = 0 by omega]; rfl
        have hLin : L.getD (h - a) 0 ∈ L := getD_in (by omega)
        rw [← hd] at hb' hlen
        simp (disch := omega) only [go_sem, undef, hu, u64_nat (i + j) (by omega), half_rd, ← hh]
        simp (disch := omega) only [go_sem, undef, hb', nats_get, Int.toNat_natCast, gh, gy, nats_len]
        refine callv_s hc hf hSy (hS _ (List.mem_append_left _ hLin)) fun M hfM => ?_
        have hbM := hfM.get0 hb'
        have hf2 := hf.trans0 hfM
        by_cases hk : key y < key (L.getD (h - a) 0)
        · simp (disch := omega) only [go_sem, undef, cmpI_neg, dec_t hk]
          refine handN_intro (h - i) (by omega) ⟨i, h, by omega, by omega, by omega, rfl, rfl, hlow, fun k hk2 hk3 => ?_, by rw [hd] at hbM; simpa using hbM, hf2⟩
          have := kmono hL (i := h - a) (j := k) (by omega) hk3
          omega
        · simp (disch := omega) only [go_sem, undef, cmpI_neg, dec_f hk]
          refine handN_intro (j - (h + 1)) (by omega) ⟨h + 1, j, by omega, by omega, by omega, rfl, rfl, fun k hk2 => ?_, hhigh, by rw [hd] at hbM; simpa using hbM, hf2⟩
          have := kmono hL (i := k) (j := h - a) (by omega) (by omega)
          omega
      · have hije : i = j := by omega
        subst hije
        obtain ⟨t, ht⟩ : ∃ t, t = i - a := ⟨_, rfl⟩
        have hZ : SortOf key (L.take t ++ y :: L.drop t) (L ++ [y]) := by
          refine ⟨?_, ?_⟩
          · refine List.perm_middle.trans ?_
            rw [List.take_append_drop]; exact (List.perm_append_singleton y L).symm
          · refine List.pairwise_append.2 ⟨hL.sublist (List.take_sublist _ _), List.pairwise_cons.2 ⟨fun z hz => ?_, hL.sublist (List.drop_sublist _ _)⟩, fun z hz w hw => ?_⟩
            · obtain ⟨k, hk, ek⟩ := drop_at hz
              have hkl := (List.getElem?_eq_some_iff.1 ek).1
              have := hhigh k (by omega) hkl
              rw [List.getD_eq_getElem?_getD, ek] at this
              simp only [Option.getD_some] at this
              unfold ltK; omega
            · obtain ⟨k, hk, ek⟩ := take_at hz
              have := hlow k (by omega)
              rw [List.getD_eq_getElem?_getD, ek] at this
              simp only [Option.getD_some] at this
              rcases List.mem_cons.1 hw with rfl | hw
              · have h2 := hx z (List.mem_of_getElem? ek) w (by simp)
                unfold ltK; omega
              · obtain ⟨k2, hk2, ek2⟩ := drop_at hw
                exact pw_at hL (by omega) ek ek2
        simp (disch := omega) only [go_sem, undef]
        refine loopQ_intro (fun n E m' => ∃ k, t ≤ k ∧ k ≤ L.length ∧ n = k - t ∧ E = [(0, .slice (some ⟨b, 0, none⟩) n0 cap), (14, .int .i64 (i : Nat)), (17, .int .i64 ((a + k : Nat) : Int))] ∧ m' b = some (dcell (A ++ (L.take k ++ y :: (L.drop k ++ B))) tail) ∧ Fr m m' [b]) (L.length - t) rfl ⟨L.length, by omega, by omega, rfl, by rw [hmi]; rfl, by simpa using hb', hf⟩ ?_
        clear hb' hf
        rintro n E m' ⟨k, hk, hkL, rfl, rfl, hb', hf⟩
        simp (disch := omega) only [go_sem, undef]
        refine condB_dec (fun hlt => ?_) (fun hlt => ?_)
        · obtain ⟨k, rfl⟩ : ∃ k', k = k' + 1 := ⟨k - 1, by omega⟩
          have hkR : k < L.length := by omega
          obtain ⟨r, hr⟩ : ∃ r, L.getD k 0 = r := ⟨_, rfl⟩
          have er := getD_some hkR
          rw [hr] at er
          have hdrop : L.drop k = r :: L.drop (k + 1) := by
            rw [List.drop_eq_getElem_cons hkR]
            congr 1
            exact (List.getElem?_eq_some_iff.1 er).2
          have htake : L.take (k + 1) = L.take k ++ [r] := by rw [List.take_add_one, er]; rfl
          obtain ⟨d, hd⟩ : ∃ d, d = A ++ (L.take (k + 1) ++ y :: (L.drop (k + 1) ++ B)) := ⟨_, rfl⟩
          obtain ⟨p, hp⟩ : ∃ p, p = a + k := ⟨_, rfl⟩
          have hd2 : d = (A ++ L.take k) ++ r :: y :: (L.drop (k + 1) ++ B) := by rw [hd, htake]; simp
          have hpl : (A ++ L.take k).length = p := by rw [List.length_append, List.length_take, ha, hp]; omega
          have gr : d.getD p 0 = r := by rw [hd2, ← hpl, getD_app]
          have gy : d.getD (p + 1) 0 = y := by
            rw [hd2, show (A ++ L.take k) ++ r :: y :: (L.drop (k + 1) ++ B) = ((A ++ L.take k) ++ [r]) ++ y :: (L.drop (k + 1) ++ B) by simp, show p + 1 = ((A ++ L.take k) ++ [r]).length by rw [List.length_append, hpl]; rfl, getD_app]
          have hsw : swp d (p + 1) p = A ++ (L.take k ++ y :: (L.drop k ++ B)) := by
            rw [hd2, ← hpl, swp_adj, hdrop]; simp
          have hdl : d.length = n0 := by
            rw [hd2, ← hn1]; simp; omega
          rw [← hd] at hb'
          have e1 : ((p + 1 : Nat) : Int) - 1 = ((p : Nat) : Int) := by omega
          have e3 : (d.set (p + 1) (d.getD p 0)).length = d.length := by simp
          rw [show a + (k + 1) = p + 1 by omega]
          simp (disch := omega) only [go_sem, undef, hb', nats_get, nats_set, e1, Int.toNat_natCast, nats_len, setIn, wrO, set_self, e3]
          refine handN_intro (k - t) (by omega) ⟨k, by omega, by omega, rfl, by rw [hp], ?_, hf.transS (Fr.set (List.mem_singleton.2 rfl))⟩
          rw [set_self]
          show some (dcell (swp d (p + 1) p) tail) = _
          rw [hsw]
        · have : k = t := by omega
          subst this
          simp (disch := omega) only [go_sem, undef]
          refine ⟨rfl, ⟨_, hZ, ?_⟩, hf⟩
          simpa using hb'
    have hp2 : 2 ≤ L.length := by omega
    have hq2 : 2 ≤ R.length := by omega
    obtain ⟨mid, hmid⟩ : ∃ mid, mid = (a + e) / 2 := ⟨_, rfl⟩
    have hmb : a < mid ∧ mid < e ∧ 2 * mid ≤ a + e ∧ a + e ≤ 2 * mid + 1 := by omega
    have hue := half_u a e (by omega)
    obtain ⟨d, hd⟩ : ∃ d, d = A ++ (L ++ (R ++ B)) := ⟨_, rfl⟩
    have hdl : d.length = n0 := by rw [hd]; exact hn0
    rw [← hd] at hb
    have main : ∀ (s0 r0 : Nat) l1 l2 l3 l4, ((s0 = mid + mi - e ∧ r0 = mid ∧ mid < mi) ∨ (s0 = a ∧ r0 = mi ∧ mi ≤ mid)) →
        loopQ Try.prog [0, 1, 2, 3, 4, 18, 19, 20, 21, 22] slices_symMergeCmpFunc_int_l4 (blockN 8 (thenN (wpN Try.prog (slices_symMergeCmpFunc_int_r38.seq ((slices_symMergeCmpFunc_int_r39.seq (NC.cond (X.slot 185) slices_symMergeCmpFunc_int_r40 NC.skip)).seq
              ((slices_symMergeCmpFunc_int_r41.seq (NC.cond (X.slot 199) slices_symMergeCmpFunc_int_r42 NC.skip)).seq
                (slices_symMergeCmpFunc_int_r43.seq (NC.cond (X.slot 213) slices_symMergeCmpFunc_int_r44 NC.skip)))))
          (retP [] fun v M => v = Value.tuple #[] ∧ (∃ Z, SortOf key Z (L ++ R) ∧ M b = some (dcell (A ++ (Z ++ B)) tail)) ∧ Fr m M [b]))
        (retP [] fun v M => v = Value.tuple #[] ∧ (∃ Z, SortOf key Z (L ++ R) ∧ M b = some (dcell (A ++ (Z ++ B)) tail)) ∧ Fr m M [b])))
        [(0, .slice (some ⟨b, 0, none⟩) n0 cap), (1, .int .i64 (a : Nat)), (2, .int .i64 (mi : Nat)), (3, .int .i64 (e : Nat)), (4, .func (.func g) #[] cl.toArray), (18, .int .i64 (mid : Nat)), (19, .int .i64 ((mid : Int) + (mi : Int))), (20, .int .i64 (s0 : Nat)), (21, .int .i64 (r0 : Nat)), (22, .int .i64 ((mid : Int) + (mi : Int) - 1))] m l1 l2 l3 l4 := by
      intro s0 r0 l1 l2 l3 l4 hsr
      have hrng : ∀ c, s0 ≤ c → c < r0 → a ≤ c ∧ c < mi ∧ mi + c < mid + mi ∧ mid + mi - 1 - c < e ∧ mi ≤ mid + mi - 1 - c := fun c h1 h2 => by omega
      have hs0 : s0 ≤ r0 := by omega
      refine loopQ_intro (fun n E m' => ∃ i j, s0 ≤ i ∧ i ≤ j ∧ j ≤ r0 ∧ n = j - i ∧ E = [(0, .slice (some ⟨b, 0, none⟩) n0 cap), (1, .int .i64 (a : Nat)), (2, .int .i64 (mi : Nat)), (3, .int .i64 (e : Nat)), (4, .func (.func g) #[] cl.toArray), (18, .int .i64 (mid : Nat)), (19, .int .i64 ((mid : Int) + (mi : Int))), (20, .int .i64 (i : Nat)), (21, .int .i64 (j : Nat)), (22, .int .i64 ((mid : Int) + (mi : Int) - 1))] ∧
        (∀ c, s0 ≤ c → c < i → ¬ key (R.getD (mid + mi - 1 - c - mi) 0) < key (L.getD (c - a) 0)) ∧ (∀ c, j ≤ c → c < r0 → key (R.getD (mid + mi - 1 - c - mi) 0) < key (L.getD (c - a) 0)) ∧ m' b = some (dcell d tail) ∧ Fr m m' [b]) (r0 - s0) rfl ⟨s0, r0, by omega, by omega, by omega, rfl, rfl, by omega, by omega, hb, Fr.refl _ _⟩ ?_
      rintro n E m' ⟨i, j, hi1, hij, hj, rfl, rfl, hlow, hhigh, hb', hf⟩
      have hu := half_u i j (by omega)
      simp (disch := omega) only [go_sem, undef]
      refine condB_dec (fun hlt => ?_) (fun hlt => ?_)
      · have hij2 : i < j := by omega
        have hd2 : (i + j) / 2 < j ∧ i ≤ (i + j) / 2 := by omega
        obtain ⟨h, hh⟩ : ∃ h, h = (i + j) / 2 := ⟨_, rfl⟩
        have hr := hrng h (by omega) (by omega)
        obtain ⟨q, hq⟩ : ∃ q, q = mid + mi - 1 - h := ⟨_, rfl⟩
        have gh : d.getD h 0 = L.getD (h - a) 0 := by
          rw [hd, getD_mid (by omega) (by omega), ha]
        have gq : d.getD q 0 = R.getD (q - mi) 0 := by
          rw [hd, getD_right (by omega) (by omega)]
          congr 1; omega
        have hLin : L.getD (h - a) 0 ∈ L := getD_in (by omega)
        have hRin : R.getD (q - mi) 0 ∈ R := getD_in (by omega)
        have eq1 : (mid : Int) + mi - 1 - h = (q : Int) := by omega
        simp (disch := omega) only [go_sem, undef, hu, u64_nat (i + j) (by omega), half_rd, ← hh]
        simp (disch := omega) only [go_sem, undef, hb', nats_get, Int.toNat_natCast, eq1, gh, gq, nats_len]
        refine callv_s hc hf (hS _ (List.mem_append_right _ hRin)) (hS _ (List.mem_append_left _ hLin)) fun M hfM => ?_
        have hbM := hfM.get0 hb'
        have hf2 := hf.trans0 hfM
        by_cases hk : key (R.getD (q - mi) 0) < key (L.getD (h - a) 0)
        · simp (disch := omega) only [go_sem, undef, cmpI_neg, dec_t hk]
          refine handN_intro (h - i) (by omega) ⟨i, h, by omega, by omega, by omega, rfl, rfl, hlow, fun c hc1 hc2 => ?_, hbM, hf2⟩
          have hr2 := hrng c (by omega) hc2
          have k1 := kmono hR (i := mid + mi - 1 - c - mi) (j := q - mi) (by omega) (by omega)
          have k2 := kmono hL (i := h - a) (j := c - a) (by omega) (by omega)
          omega
        · simp (disch := omega) only [go_sem, undef, cmpI_neg, dec_f hk]
          refine handN_intro (j - (h + 1)) (by omega) ⟨h + 1, j, by omega, by omega, by omega, rfl, rfl, fun c hc1 hc2 => ?_, hhigh, hbM, hf2⟩
          have hr2 := hrng c hc1 (by omega)
          have k1 := kmono hR (i := q - mi) (j := mid + mi - 1 - c - mi) (by omega) (by omega)
          have k2 := kmono hL (i := c - a) (j := h - a) (by omega) (by omega)
          omega
      · have hije : i = j := by omega
        subst hije
        -- where it is parted
        obtain ⟨en, hen⟩ : ∃ en, en = mid + mi - i := ⟨_, rfl⟩
        have hse : a ≤ i ∧ i ≤ mi ∧ mi ≤ en ∧ en ≤ e ∧ i ≤ mid := by omega
        obtain ⟨s, hs⟩ : ∃ s, s = i - a := ⟨_, rfl⟩
        obtain ⟨t, ht⟩ : ∃ t, t = en - mi := ⟨_, rfl⟩
        have hUV : ∀ u v, 1 ≤ s → L[s - 1]? = some u → R[t]? = some v → ltK key u v := by
          intro u v h1s hu1 hv1
          have htl := (List.getElem?_eq_some_iff.1 hv1).1
          have := hlow (i - 1) (by omega) (by omega)
          rw [show mid + mi - 1 - (i - 1) - mi = t by omega, show i - 1 - a = s - 1 by omega, List.getD_eq_getElem?_getD, List.getD_eq_getElem?_getD, hu1, hv1] at this
          simp only [Option.getD_some] at this
          have := hx u (List.mem_of_getElem? hu1) v (List.mem_of_getElem? hv1)
          unfold ltK; omega
        have hWW : ∀ w w', 1 ≤ t → R[t - 1]? = some w → L[s]? = some w' → ltK key w w' := by
          intro w w' h1t hw1 hw2
          have hsl := (List.getElem?_eq_some_iff.1 hw2).1
          have := hhigh i (by omega) (by omega)
          rw [show mid + mi - 1 - i - mi = t - 1 by omega, show i - a = s by omega, List.getD_eq_getElem?_getD, List.getD_eq_getElem?_getD, hw1, hw2] at this
          simp only [Option.getD_some] at this
          exact .inl this
        have hsl : s ≤ L.length := by omega
        have htl : t ≤ R.length := by omega
        have hcross := merge_parts hL hR hUV hWW hsl htl
        have een : (mid : Int) + mi - i = (en : Int) := by omega
        generalize hC : ((slices_symMergeCmpFunc_int_r39.seq (NC.cond (X.slot 185) slices_symMergeCmpFunc_int_r40 NC.skip)).seq ((slices_symMergeCmpFunc_int_r41.seq (NC.cond (X.slot 199) slices_symMergeCmpFunc_int_r42 NC.skip)).seq (slices_symMergeCmpFunc_int_r43.seq (NC.cond (X.slot 213) slices_symMergeCmpFunc_int_r44 NC.skip)))) = C
        simp (disch := omega) only [go_sem, undef, een]
        subst hC
        refine symTail_s hl IH (mid := mid) (i := i) (en := en) (s := s) (t := t) (by rw [← hd]; exact hb') hf hL hR hx hS hc hn0 ha hmi he (by omega) ⟨hmb.1, hmb.2.1⟩ (by omega) hse hs ht hcross
    by_cases hcm : mid < mi
    · have es : (mid : Int) + mi - e = ((mid + mi - e : Nat) : Int) := by omega
      simp (disch := omega) only [go_sem, undef, dec_f (show ¬ (mi : Int) - a = 1 by omega), dec_f (show ¬ (e : Int) - mi = 1 by omega), hue, u64_nat (a + e) (by omega), half_rd, ← hmid, dec_t (show (mid : Int) < mi by omega), es]
      exact main _ _ _ _ _ _ (.inl ⟨rfl, rfl, hcm⟩)
    · simp (disch := omega) only [go_sem, undef, dec_f (show ¬ (mi : Int) - a = 1 by omega), dec_f (show ¬ (e : Int) - mi = 1 by omega), hue, u64_nat (a + e) (by omega), half_rd, ← hmid, dec_f (show ¬ (mid : Int) < mi by omega)]
      exact main _ _ _ _ _ _ (.inr ⟨rfl, rfl, by omega⟩)
theorem symMerge_s {g cap n0 : Nat} {cl : List Value} {key : Nat → Int} {S : Nat → Prop} {b : Nat} {tail : List Value} (hl : n0 ≤ 1000) : ∀ N, SymOK g cap n0 cl key S b tail N
  | 0 => fun m A L R B a mi e hb hL0 hR0 hL hR hx hS hc hn0 ha hmi he hN => absurd (List.length_pos_iff.2 hL0) (by omega)
  | N + 1 => symMerge_step hl (symMerge_s hl N)
end Go.Fw

set_option linter.unusedSimpArgs false
set_option linter.unusedVariables false
namespace Go.Fw
open Go.Proofs
/-- slices.SortStableFunc on a row of rising nodes, at most 40 -/
theorem stable_s {m : Mem} {b cap g : Nat} {cl : List Value} {key : Nat → Int} {S : Nat → Prop} (X : List Nat) {tail : List Value} (hb : m b = some (dcell X tail)) (hX : X.Pairwise (· < ·)) (hS : ∀ x ∈ X, S x) (hc : CmpK g cl key S m b) (hl : X.length < 40) :
    MC Try.prog n_slices_SortStableFunc_int_int [.slice (some ⟨b, 0, none⟩) X.length cap, .func (.func g) #[] cl.toArray] m fun v M => v = .tuple #[] ∧ M b = some (dcell (sortK key X) tail) ∧ Fr m M [b] := by
  have hnd := nodup_lt hX
  have hst : MC Try.prog n_slices_stableCmpFunc_int [.slice (some ⟨b, 0, none⟩) X.length cap, .int .i64 (X.length : Nat), .func (.func g) #[] cl.toArray] m fun v M => v = .tuple #[] ∧ M b = some (dcell (sortK key X) tail) ∧ Fr m M [b] := by
    obtain ⟨n, hn⟩ : ∃ n, n = X.length := ⟨_, rfl⟩
    rw [← hn]
    refine slices_stableCmpFunc_int_go (by simp [Try.f33]) ?_
    by_cases h20 : n < 20
    · simp (disch := omega) only [go_sem, undef]
      refine loopQ_intro (fun _ E m' => E = [(0, .slice (some ⟨b, 0, none⟩) n cap), (1, .int .i64 (n : Nat)), (2, .func (.func g) #[] cl.toArray), (6, .int .i64 20), (7, .int .i64 0), (8, .int .i64 20)] ∧ m' = m) 0 rfl ⟨rfl, rfl⟩ ?_
      rintro g' E m' ⟨rfl, rfl⟩
      simp (disch := omega) only [go_sem, undef, dec_f (show ¬ (20 : Int) ≤ n by omega)]
      have hi : MC Try.prog n_slices_insertionSortCmpFunc_int [.slice (some ⟨b, 0, none⟩) n cap, .int .i64 0, .int .i64 (n : Nat), .func (.func g) #[] cl.toArray] m' fun v M => v = .tuple #[] ∧ M b = some (dcell (([] : List Nat) ++ (sortK key X ++ [])) tail) ∧ Fr m' M [b] :=
        insertion_s (lo := 0) [] X [] (by simpa using hb) hX hS hc (by simp [hn]) (by omega) rfl (by omega)
      refine call_with hi ?_
      rintro v M ⟨rfl, hM, hfM⟩
      simp (disch := omega) only [go_sem, undef]
      refine loopQ_intro (fun _ E m2 => E = [(0, .slice (some ⟨b, 0, none⟩) n cap), (1, .int .i64 (n : Nat)), (2, .func (.func g) #[] cl.toArray), (6, .int .i64 20)] ∧ m2 = M) 0 rfl ⟨rfl, rfl⟩ ?_
      rintro g' E m2 ⟨rfl, rfl⟩
      simp (disch := omega) only [go_sem, undef, dec_f (show ¬ (20 : Int) < n by omega)]
      exact ⟨rfl, by simpa using hM, hfM⟩
    · have hsp : X = X.take 20 ++ X.drop 20 := (List.take_append_drop 20 X).symm
      have hX1 : (X.take 20).Pairwise (· < ·) := hX.sublist (List.take_sublist _ _)
      have hX2 : (X.drop 20).Pairwise (· < ·) := hX.sublist (List.drop_sublist _ _)
      have hl1 : (X.take 20).length = 20 := by rw [List.length_take]; omega
      have hl2 : (X.drop 20).length = n - 20 := by rw [List.length_drop]; omega
      have hS1 : ∀ x ∈ X.take 20, S x := fun x h => hS x (List.mem_of_mem_take h)
      have hS2 : ∀ x ∈ X.drop 20, S x := fun x h => hS x (List.mem_of_mem_drop h)
      have hlt12 : ∀ x ∈ X.take 20, ∀ y ∈ X.drop 20, x < y := by
        intro x h1 y h2
        obtain ⟨i, hi, ei⟩ := take_at h1
        obtain ⟨j, hj, ej⟩ := drop_at h2
        exact pw_at hX (by omega) ei ej
      generalize X.take 20 = X1 at *
      generalize X.drop 20 = X2 at *
      subst hsp
      have k1 := sortX_perm (ltK key) X1
      have k2 := sortX_perm (ltK key) X2
      have s1 := sortX_sorted (ltK_tr key) (ltK_tot key) X1 (nodup_lt hX1)
      have s2 := sortX_sorted (ltK_tr key) (ltK_tot key) X2 (nodup_lt hX2)
      have kl1 : (sortK key X1).length = 20 := by rw [k1.length_eq, hl1]
      have kl2 : (sortK key X2).length = n - 20 := by rw [k2.length_eq, hl2]
      simp (disch := omega) only [go_sem, undef]
      refine loopQ_intro (fun c E m' => ((c = 1 ∧ E = [(0, .slice (some ⟨b, 0, none⟩) n cap), (1, .int .i64 (n : Nat)), (2, .func (.func g) #[] cl.toArray), (6, .int .i64 20), (7, .int .i64 0), (8, .int .i64 20)] ∧ m' = m) ∨
        (c = 0 ∧ E = [(0, .slice (some ⟨b, 0, none⟩) n cap), (1, .int .i64 (n : Nat)), (2, .func (.func g) #[] cl.toArray), (6, .int .i64 20), (7, .int .i64 20), (8, .int .i64 40)] ∧ m' b = some (dcell (sortK key X1 ++ X2) tail) ∧ Fr m m' [b]))) 1 rfl (.inl ⟨rfl, rfl, rfl⟩) ?_
      rintro c E m' (⟨rfl, rfl, rfl⟩ | ⟨rfl, rfl, hM, hfM⟩)
      · simp (disch := omega) only [go_sem, undef, dec_t (show (20 : Int) ≤ n by omega)]
        have hi : MC Try.prog n_slices_insertionSortCmpFunc_int [.slice (some ⟨b, 0, none⟩) n cap, .int .i64 0, .int .i64 20, .func (.func g) #[] cl.toArray] m' fun v M => v = .tuple #[] ∧ M b = some (dcell (([] : List Nat) ++ (sortK key X1 ++ X2)) tail) ∧ Fr m' M [b] :=
          insertion_s (lo := 0) (hi := 20) [] X1 X2 (by simpa using hb) hX1 hS1 hc (by simp; omega) (by omega) rfl (by omega)
        refine call_with hi ?_
        rintro v M ⟨rfl, hM, hfM⟩
        simp (disch := omega) only [go_sem, undef]
        exact handN_intro 0 (by omega) (.inr ⟨rfl, rfl, by simpa using hM, hfM⟩)
      · simp (disch := omega) only [go_sem, undef, dec_f (show ¬ (40 : Int) ≤ n by omega)]
        have hi : MC Try.prog n_slices_insertionSortCmpFunc_int [.slice (some ⟨b, 0, none⟩) n cap, .int .i64 20, .int .i64 (n : Nat), .func (.func g) #[] cl.toArray] m' fun v M => v = .tuple #[] ∧ M b = some (dcell (sortK key X1 ++ (sortK key X2 ++ [])) tail) ∧ Fr m' M [b] :=
          insertion_s (lo := 20) (hi := n) (sortK key X1) X2 [] (by simpa using hM) hX2 hS2 (hc.to hfM) (by simp; omega) (by omega) kl1 (by omega)
        refine call_with hi ?_
        rintro v M ⟨rfl, hM2, hfM2⟩
        have hf2 := hfM.transS hfM2
        rw [List.append_nil] at hM2
        simp (disch := omega) only [go_sem, undef]
        by_cases hn20 : n = 20
        · refine loopQ_intro (fun _ E m2 => E = [(0, .slice (some ⟨b, 0, none⟩) n cap), (1, .int .i64 (n : Nat)), (2, .func (.func g) #[] cl.toArray), (6, .int .i64 20)] ∧ m2 = M) 0 rfl ⟨rfl, rfl⟩ ?_
          rintro g' E m2 ⟨rfl, rfl⟩
          simp (disch := omega) only [go_sem, undef, dec_f (show ¬ (20 : Int) < n by omega)]
          have hx2 : X2 = [] := List.eq_nil_of_length_eq_zero (by omega)
          subst hx2
          exact ⟨rfl, by simpa [sortX] using hM2, hf2⟩
        · refine loopQ_intro (fun c E m2 => ((c = 1 ∧ E = [(0, .slice (some ⟨b, 0, none⟩) n cap), (1, .int .i64 (n : Nat)), (2, .func (.func g) #[] cl.toArray), (6, .int .i64 20)] ∧ m2 = M) ∨
            (c = 0 ∧ E = [(0, .slice (some ⟨b, 0, none⟩) n cap), (1, .int .i64 (n : Nat)), (2, .func (.func g) #[] cl.toArray), (6, .int .i64 40)] ∧ m2 b = some (dcell (sortK key (X1 ++ X2)) tail) ∧ Fr m m2 [b]))) 1 rfl (.inl ⟨rfl, rfl, rfl⟩) ?_
          rintro c E m2 (⟨rfl, rfl, rfl⟩ | ⟨rfl, rfl, hM3, hfM3⟩)
          · simp (disch := omega) only [go_sem, undef, dec_t (show (20 : Int) < n by omega)]
            refine loopQ_intro (fun _ E m3 => E = [(0, .slice (some ⟨b, 0, none⟩) n cap), (1, .int .i64 (n : Nat)), (2, .func (.func g) #[] cl.toArray), (6, .int .i64 20), (7, .int .i64 0), (8, .int .i64 40)] ∧ m3 = m2) 0 rfl ⟨rfl, rfl⟩ ?_
            rintro g' E m3 ⟨rfl, rfl⟩
            simp (disch := omega) only [go_sem, undef, dec_f (show ¬ (40 : Int) ≤ n by omega), dec_t (show (20 : Int) < n by omega)]
            have hsm : MC Try.prog n_slices_symMergeCmpFunc_int [.slice (some ⟨b, 0, none⟩) n cap, .int .i64 0, .int .i64 20, .int .i64 (n : Nat), .func (.func g) #[] cl.toArray] m3 fun v M => v = .tuple #[] ∧ (∃ Z, SortOf key Z (sortK key X1 ++ sortK key X2) ∧ M b = some (dcell (([] : List Nat) ++ (Z ++ [])) tail)) ∧ Fr m3 M [b] :=
              symMerge_s (n0 := n) (by omega) n m3 [] (sortK key X1) (sortK key X2) [] 0 20 n (by simpa using hM2) (by rw [← List.length_pos_iff]; omega) (by rw [← List.length_pos_iff]; omega) s1 s2 (fun x hx y hy _ => hlt12 x (k1.mem_iff.1 hx) y (k2.mem_iff.1 hy))
                (fun x hx => hS x (by
                  rcases List.mem_append.1 hx with h | h
                  · exact List.mem_append_left _ (k1.mem_iff.1 h)
                  · exact List.mem_append_right _ (k2.mem_iff.1 h))) (hc.to hf2) (by simp; omega) rfl (by omega) (by omega) (by omega)
            refine call_with hsm ?_
            rintro v M4 ⟨rfl, ⟨Z, hZ, hM4⟩, hf4⟩
            have hZe : Z = sortK key (X1 ++ X2) := sortK_one (hZ.1.trans (k1.append k2)) hZ.2 hnd
            subst hZe
            simp (disch := omega) only [go_sem, undef]
            exact handN_intro 0 (by omega) (.inr ⟨rfl, rfl, by simpa using hM4, hf2.transS hf4⟩)
          · simp (disch := omega) only [go_sem, undef, dec_f (show ¬ (40 : Int) < n by omega)]
            exact ⟨rfl, hM3, hfM3⟩
  refine slices_SortStableFunc_int_int_go (by simp [Try.f33]) ?_
  simp (disch := omega) only [go_sem, undef]
  refine call_with hst ?_
  rintro v M ⟨rfl, hM, hfM⟩
  simp (disch := omega) only [go_sem, undef]
  exact ⟨rfl, hM, hfM⟩
end Go.Fw

set_option linter.unusedSimpArgs false
set_option linter.unusedVariables false
namespace Go.Fw
open Go.Proofs
abbrev seqC (C : LogL) (S : List I2) (v : Nat) : Int := (attC C (nthI S v)).seq
set_option maxHeartbeats 4000000 in
theorem exec_do_c2_s {m : Mem} {pb rm b2 b3 T2 T3 : Nat} {done : Dp} {ov sv : Value} {C : LogL} {S : List I2} (h2 : m b2 = some (.cells [lpp pb].toArray T2 (0, 0))) (h3 : m b3 = some (.cells [sv].toArray T3 (0, 0)))
    (h : PlM m pb rm done ov C) (hS : RdS 2 pc m sv S) {x y : Nat} (hx : x < S.length) (hy : y < S.length) :
    MC Try.prog n_exec_plan_do_c2 [.int .i64 (x : Int), .int .i64 (y : Int), lpp b2, lpp b3] m fun v M => v = .int .i64 (cmpI (seqC C S x) (seqC C S y)) ∧ Fr m M [] := by
  obtain ⟨sa, sc, esv⟩ := hS.form
  subst esv
  refine exec_plan_do_c2_go (by simp [Try.f48]) ?_
  refine RdS.elK hS hx (by decide) fun bx o i hi hix hE => ?_
  refine RdS.elK hS hy (by decide) fun by_ o' j hj hjx hE' => ?_
  have e1 : i = nthI S x := by unfold nthI; rw [List.getD_eq_getElem?_getD, hi]; rfl
  have e2 : j = nthI S y := by unfold nthI; rw [List.getD_eq_getElem?_getD, hj]; rfl
  have H := Hq.refl m []
  simp (disch := omega) only [go_sem, undef, h2, h3, h.box, dv_app7, hix, hE.lda0, hjx, hE'.lda0, pc_take, rd_lkpC0 h.map]
  refine callQ H (cmp_Compare_s _ _ m) fun M f H => ?_
  simp (disch := omega) only [go_sem, undef]
  exact ⟨by rw [seqC, seqC, ← e1, ← e2], H.fr⟩
end Go.Fw

set_option linter.unusedSimpArgs false
set_option linter.unusedVariables false
namespace Go.Fw
open Go.Proofs
/-- a map that is only read -/
def mapA (r : Nat) (l : List (I2 × Value)) : As where
  fp := [r]
  wp := []
  sub _ h := by cases h
  p m := MapIs pv m r l
  st := by
    intro m m' h e
    obtain ⟨es, c, h1, h2⟩ := h
    exact ⟨es, c, by rw [e r (by simp)]; exact h1, h2⟩
  th := by
    intro m h b hb
    obtain ⟨es, c, h1, h2⟩ := h
    simp at hb; subst hb; rw [h1]; exact Option.some_ne_none _
/-- the parts of a graph, the walk's own -/
def psA (w : Value) (fs : List Value) (l : List (List Nat)) : As where
  fp := blkOf w ++ fs.flatMap blkOf
  wp := blkOf w ++ fs.flatMap blkOf
  sub _ h := h
  p m := PartsOK m w fs l ∧ fs.length = l.length
  st := by
    intro m m' h e
    refine ⟨⟨Own.st h.1.top fun b hb => e b (List.mem_append_left _ hb), fun k r f hk hf => Own.st (h.1.row k r f hk hf) fun b hb => e b (List.mem_append_right _ (List.mem_flatMap.2 ⟨f, List.mem_of_getElem? hf, hb⟩)), h.1.dis, h.1.nv⟩, h.2⟩
  th := by
    intro m h b hb
    rcases List.mem_append.1 hb with hb | hb
    · exact h.1.top.there b hb
    · obtain ⟨f, hf, hb⟩ := List.mem_flatMap.1 hb
      obtain ⟨k, hk⟩ := List.getElem?_of_mem hf
      have hkl : k < l.length := by rw [← h.2]; exact (List.getElem?_eq_some_iff.1 hk).1
      exact (h.1.row k _ f (List.getElem?_eq_getElem hkl) hk).there b hb
theorem PartsOK.turn {m M : Mem} {w f : Value} {fs : List Value} {l : List (List Nat)} {k : Nat} {X : List Nat} (h : PartsOK m w fs l) (hf : fs[k]? = some f) (hl : k < l.length) (fr : Fr m M (blkOf f)) (ho : Own M 3 1 f X.length (nats X)) : PartsOK M w fs (l.set k X) := by
  refine ⟨?_, fun j r g hj hg => ?_, h.dis, h.nv⟩
  · rw [List.length_set]; exact h.top.frame fr fun x hx hx' => h.nv k f hf x hx' hx
  · by_cases e : j = k
    · subst e
      rw [hf] at hg; cases hg
      rw [List.getElem?_set_self hl] at hj; cases hj
      exact ho
    · rw [List.getElem?_set_ne (fun h => e h.symm)] at hj
      exact (h.row j r g hj hg).frame fr fun x hx hx' => h.dis j k g f e hg hf x hx hx'
theorem Out.ne {n : Nat} {E : Nat → List Int} {D : Nat → Prop} {l : List (List Nat)} (h : Out n E D l) : ∀ p ∈ l, p ≠ [] ∧ p.Pairwise (· < ·) ∧ ∀ x ∈ p, x < n := by
  induction h with
  | nil => simp
  | @cons D i f r h1 h2 h3 h4 ih =>
    intro p hp
    rcases List.mem_cons.1 hp with rfl | hp
    · refine ⟨fun e => ?_, List.Pairwise.filter _ List.pairwise_lt_range, fun x hx => by simpa using (List.mem_filter.1 hx).1⟩
      have : i ∈ (List.range n).filter f := List.mem_filter.2 ⟨List.mem_range.2 h1.1, (h3 i h1.1).2 (⟨.refl i, .refl i⟩)⟩
      rw [e] at this; cases this
    · exact ih p hp
theorem stableQ {m0 m : Mem} {Sf : List Nat} {L : List As} {w f : Value} {fs : List Value} {l : List (List Nat)} {k g : Nat} {X : List Nat} {cl : List Value} {key : Nat → Int} {K : Value → Mem → Prop} {lk : Lk K}
    (H : Hq m0 m Sf (psA w fs l :: L)) (hk : l[k]? = some X) (hf : fs[k]? = some f) (hX : X.Pairwise (· < ·)) (hne : X ≠ []) (hl : X.length < 40) (hc : ∀ b, b ∈ blkOf f → CmpK g cl key (fun x => x ∈ X) m b)
    (hK : ∀ M, Fr m M (blkOf f) → Hq m0 M Sf (psA w fs (l.set k (sortK key X)) :: L) → K (.tuple #[]) M) :
    callP Try.prog n_slices_SortStableFunc_int_int [f, .func (.func g) #[] cl.toArray] m K lk := by
  have hp : PartsOK m w fs l ∧ fs.length = l.length := H.hs.1
  have hkl := (List.getElem?_eq_some_iff.1 hk).1
  obtain ⟨b, cap, tail, rfl, hb, hcap, hxl⟩ := (hp.1.row k X f hk hf).row (List.length_pos_iff.2 hne)
  have hs := stable_s (cap := cap) X (tail := tail) hb hX (fun x hx => hx) (hc b (by simp [blkOf])) hl
  refine call_with hs ?_
  rintro v M ⟨rfl, hM, hfM⟩
  have hfM : Fr m M (blkOf (Value.slice (some ⟨b, 0, none⟩) X.length cap)) := hfM
  have hlen : (sortK key X).length = X.length := (sortX_perm (ltK key) X).length_eq
  obtain ⟨_, ⟨h0, _⟩ | ⟨b', cap', tail', e, hb', hl'⟩⟩ := hp.1.row k X _ hk hf
  · cases h0
  cases e
  have htl : tail' = tail := by
    rw [hb] at hb'
    have := congrArg (fun o => match o with | some (Obj.cells c _ _) => c.toList | _ => []) hb'
    simpa using this.symm
  subst htl
  have ho : Own M 3 1 (.slice (some ⟨b, 0, none⟩) X.length cap) (sortK key X).length (nats (sortK key X)) := by
    refine ⟨by simp [nats], .inr ⟨b, cap, tail', by rw [hlen], hM, ?_⟩⟩
    rw [← hl']; simp [nats, hlen]
  refine hK M hfM (H.rep0 (A' := psA w fs (l.set k (sortK key X))) ⟨hp.1.turn hf hkl hfM ho, by rw [List.length_set]; exact hp.2⟩ (hfM.sub fun x hx => ?_) (fun x hx => .inl hx) (fun x hx => .inl hx))
  exact List.mem_append_right _ (List.mem_flatMap.2 ⟨_, List.mem_of_getElem? hf, hx⟩)
end Go.Fw
