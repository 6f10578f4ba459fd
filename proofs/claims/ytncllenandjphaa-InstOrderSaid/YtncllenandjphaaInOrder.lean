import Derived.Test.YtncllenandjphaaInNext
namespace Go.Fw
open Go.Proofs
/-- the orders' part of the law, over any order function -/
def ordET (a b c f : Nat) (k : ET) : ET :=
    (.q 0 (.lda 2) [(.slot a)] none
    (.q 1 (.lda 2) [(.slot a)] none
    (.x 2 (.call f) [(.res 0), (.res 1)] none []
    (.q 3 .not [(.res 2)] none
    (.q 5 (.lda 2) [(.slot a)] (some ((.res 3), true))
    (.q 6 (.lda 2) [(.slot b)] (some ((.res 3), true))
    (.q 7 (.eqc false [(.i .i64), (.i .i64)]) [(.res 5), (.res 6)] (some ((.res 3), true))
    (.q 8 .mv [(.res 7)] (some ((.res 3), true))
    (.q 9 (.lda 2) [(.slot a)] (some ((.res 8), false))
    (.q 10 (.lda 2) [(.slot b)] (some ((.res 8), false))
    (.q 12 (.lda 2) [(.slot b)] (some ((.res 8), false))
    (.q 13 (.lda 2) [(.slot a)] (some ((.res 8), false))
    (.x 11 (.call f) [(.res 9), (.res 10)] (some ((.res 8), false)) [(12, (.lda 2), [(.slot b)], (some ((.res 8), false))), (13, (.lda 2), [(.slot a)], (some ((.res 8), false)))]
    (.x 14 (.call f) [(.res 12), (.res 13)] (some ((.res 8), false)) []
    (.q 15 (.beq true) [(.res 11), (.res 14)] (some ((.res 8), false))
    (.q 16 .pick [(.res 8), (.const (.bool true)), (.res 15)] (some ((.res 3), true))
    (.q 17 .pick [(.res 3), (.res 16), (.const (.bool false))] none
    (.q 19 (.lda 2) [(.slot a)] (some ((.res 17), true))
    (.q 20 (.lda 2) [(.slot b)] (some ((.res 17), true))
    (.x 21 (.call f) [(.res 19), (.res 20)] (some ((.res 17), true)) []
    (.q 22 .not [(.res 21)] (some ((.res 17), true))
    (.q 23 .mv [(.res 22)] (some ((.res 17), true))
    (.q 24 (.lda 2) [(.slot b)] (some ((.res 23), false))
    (.q 25 (.lda 2) [(.slot c)] (some ((.res 23), false))
    (.x 26 (.call f) [(.res 24), (.res 25)] (some ((.res 23), false)) []
    (.q 27 .not [(.res 26)] (some ((.res 23), false))
    (.q 28 .pick [(.res 23), (.const (.bool true)), (.res 27)] (some ((.res 17), true))
    (.q 29 .mv [(.res 28)] (some ((.res 17), true))
    (.q 30 (.lda 2) [(.slot a)] (some ((.res 29), false))
    (.q 31 (.lda 2) [(.slot c)] (some ((.res 29), false))
    (.x 32 (.call f) [(.res 30), (.res 31)] (some ((.res 29), false)) []
    (.q 33 .pick [(.res 29), (.const (.bool true)), (.res 32)] (some ((.res 17), true))
    (.q 34 .pick [(.res 17), (.res 33), (.const (.bool false))] none
    k)))))))))))))))))))))))))))))))))
example : iorder_r1 = .reg (ordET 7 8 9 15 (.out [(6, (.slot 6)), (7, (.slot 7)), (8, (.slot 8)), (9, (.slot 9)), (10, (.slot 10)), (11, (.slot 11)), (12, (.slot 12)), (15, (.res 34))])) [6, 7, 8, 9, 10, 11, 12] := rfl

def PairAt (M : Mem) (v : Value) (p : Int × Int) (T : Nat) : Prop := ∃ b, v = .pointer (some ⟨b, 0, none⟩) ∧ M b = some (.cells #[.int .i64 p.1, .int .i64 p.2] T (0, 0))
theorem PairAt.frame {M N : Mem} {v : Value} {p : Int × Int} {T : Nat} (h : PairAt M v p T) (f : Fr M N []) : PairAt N v p T := by
  obtain ⟨b, e, hb⟩ := h; exact ⟨b, e, f.get0 hb⟩
theorem PairAt.rd {M : Mem} {v : Value} {p : Int × Int} {T : Nat} (h : PairAt M v p T) : rd (.lda 2) [v] M = some (ip p) := by
  obtain ⟨b, rfl, hb⟩ := h
  simp (disch := omega) only [go_sem, hb, ip]

theorem eq_ip (p q : Int × Int) (m : Mem) : rd (.eqc false [.i .i64, .i .i64]) [ip p, ip q] m = some (.bool (decide (p = q))) := by
  simp only [ip, rd_eqc, leafEq_cons, le1_i, Option.bind_some, leafEq_nil, Option.map_some, Bool.and_true, Bool.false_eq_true, if_false]
  congr 2
  rw [Bool.eq_iff_iff]
  simp [Prod.ext_iff]

set_option maxHeartbeats 2000000 in
theorem ord_spec {P : Program} {M : Mem} {L : Nat → Value} {K : Env → Mem → Prop} {a b c f T : Nat} {p q r : Int × Int} {k : ET} 
    (hf : ∀ x y m, MC P f [ip x, ip y] m fun v m' => v = .bool (decide (lt2 x y)) ∧ Fr m m' [])
    (ha : PairAt M (L a) p T) (hb : PairAt M (L b) q T) (hc : PairAt M (L c) r T)
    (hK : ∀ σ m', Env.get σ 34 = .bool true → Fr M m' [] → etP P L k σ m' K) : etP P L (ordET a b c f k) [] M K := by
  have irr : ¬ lt2 p p := by unfold lt2; omega
  have tri : p ≠ q → (decide (lt2 p q) != decide (lt2 q p)) = true := fun h => by
    by_cases h1 : lt2 p q
    · have : ¬ lt2 q p := by unfold lt2 at *; omega
      simp [h1, this]
    · have : lt2 q p := by
        have : ¬ (p.1 = q.1 ∧ p.2 = q.2) := fun h' => h (Prod.ext h'.1 h'.2)
        unfold lt2 at *; omega
      simp [h1, this]
  have tra : lt2 p q → lt2 q r → lt2 p r := by unfold lt2; omega
  -- the second half
  have half : ∀ (σ : Env) (N : Mem), Env.get σ 17 = .bool true → Fr M N [] → etP P L
    (.q 19 (.lda 2) [(.slot a)] (some ((.res 17), true))
    (.q 20 (.lda 2) [(.slot b)] (some ((.res 17), true))
    (.x 21 (.call f) [(.res 19), (.res 20)] (some ((.res 17), true)) []
    (.q 22 .not [(.res 21)] (some ((.res 17), true))
    (.q 23 .mv [(.res 22)] (some ((.res 17), true))
    (.q 24 (.lda 2) [(.slot b)] (some ((.res 23), false))
    (.q 25 (.lda 2) [(.slot c)] (some ((.res 23), false))
    (.x 26 (.call f) [(.res 24), (.res 25)] (some ((.res 23), false)) []
    (.q 27 .not [(.res 26)] (some ((.res 23), false))
    (.q 28 .pick [(.res 23), (.const (.bool true)), (.res 27)] (some ((.res 17), true))
    (.q 29 .mv [(.res 28)] (some ((.res 17), true))
    (.q 30 (.lda 2) [(.slot a)] (some ((.res 29), false))
    (.q 31 (.lda 2) [(.slot c)] (some ((.res 29), false))
    (.x 32 (.call f) [(.res 30), (.res 31)] (some ((.res 29), false)) []
    (.q 33 .pick [(.res 29), (.const (.bool true)), (.res 32)] (some ((.res 17), true))
    (.q 34 .pick [(.res 17), (.res 33), (.const (.bool false))] none
    k)))))))))))))))) σ N K := by
    intro σ N hσ g
    have a1 := (ha.frame g).rd
    have b1 := (hb.frame g).rd
    simp (disch := omega) only [go_sem, hσ, a1, b1]
    refine call_with (hf p q N) ?_
    rintro v m1 ⟨rfl, f1⟩
    have g1 := g.trans0 f1
    have b2 := (hb.frame g1).rd
    have c2 := (hc.frame g1).rd
    by_cases h1 : lt2 p q
    · simp (disch := omega) only [go_sem, hσ, decide_eq_true h1, Bool.not_true, b2, c2]
      refine call_with (hf q r m1) ?_
      rintro v m2 ⟨rfl, f2⟩
      have g2 := g1.trans0 f2
      have a3 := (ha.frame g2).rd
      have c3 := (hc.frame g2).rd
      by_cases h2 : lt2 q r
      · simp (disch := omega) only [go_sem, hσ, decide_eq_true h2, Bool.not_true, Bool.false_eq_true, if_false, a3, c3]
        refine call_with (hf p r m2) ?_
        rintro v m3 ⟨rfl, f3⟩
        simp (disch := omega) only [go_sem, hσ, decide_eq_true (tra h1 h2), Bool.false_eq_true, if_false, if_true]
        exact hK _ _ (by simp [Env.get]) (g2.trans0 f3)
      · simp (disch := omega) only [go_sem, hσ, decide_eq_false h2, Bool.not_false, Bool.false_eq_true, if_false, if_true, undef]
        exact hK _ _ (by simp [Env.get]) g2
    · simp (disch := omega) only [go_sem, hσ, decide_eq_false h1, Bool.not_false, Bool.false_eq_true, if_false, if_true, undef]
      exact hK _ _ (by simp [Env.get]) g1
  unfold ordET
  have a1 := ha.rd
  generalize hH : ET.q 19 _ _ _ _ = Half at half ⊢
  simp (disch := omega) only [go_sem, a1]
  refine call_with (hf p p M) ?_
  rintro v m1 ⟨rfl, f1⟩
  have a2 := (ha.frame f1).rd
  have b2 := (hb.frame f1).rd
  have e2 := eq_ip p q m1
  by_cases h : p = q
  · subst h
    simp (disch := omega) only [go_sem, decide_eq_false irr, Bool.not_false, a2, b2, e2, decide_true, undef, if_true]
    exact half _ _ (by simp [Env.get]) f1
  · simp (disch := omega) only [go_sem, decide_eq_false irr, Bool.not_false, a2, b2, e2, decide_eq_false h]
    refine call_with (hf p q m1) ?_
    rintro v m2 ⟨rfl, f2⟩
    have g2 := f1.trans0 f2
    have a3 := (ha.frame g2).rd
    have b3 := (hb.frame g2).rd
    simp (disch := omega) only [go_sem, a3, b3]
    refine call_with (hf q p m2) ?_
    rintro v m3 ⟨rfl, f3⟩
    simp (disch := omega) only [go_sem, tri h, Bool.false_eq_true, if_false, if_true]
    exact half _ _ (by simp [Env.get]) (g2.trans0 f3)

theorem asc_eq {l r : List (Int × Int)} (h : l.Perm r) (h1 : Asc l) (h2 : Asc r) : l = r :=
  List.Perm.eq_of_pairwise (le := lt2) (fun a b _ _ h1 h2 => by unfold lt2 at *; omega) h1 h2 h

def orderTail : ET :=
    (.x 26 (.call 12) [(.res 25)] (some ((.res 23), true)) []
    (.x 28 (.call 12) [(.res 27)] (some ((.res 23), true)) []
    (.x 29 (.call 11) [(.res 26), (.res 28)] (some ((.res 23), true)) []
    (.q 30 .pick [(.res 23), (.res 29), (.const (.bool false))] none
    (.q 32 .mv [(.slot 17)] (some ((.res 30), true))
    (.q 34 .mv [(.slot 18)] (some ((.res 30), true))
    (.x 33 (.call 10) [(.res 32)] (some ((.res 30), true)) []
    (.x 35 (.call 10) [(.res 34)] (some ((.res 30), true)) []
    (.q 36 (.icm .eql) [(.res 33), (.res 35)] (some ((.res 30), true))
    (.q 37 .pick [(.res 30), (.res 36), (.const (.bool false))] none
    (.x 39 (.call 3) [] (some ((.res 37), true)) []
    (.q 40 .pick [(.res 37), (.res 39), (.const (.bool false))] none
    (.out [(14, (.res 40))])))))))))))))
def orderEnd : NC := .seq (.reg
    (.q 2 .mv [(.slot 16)] (some ((.slot 15), true))
    (.q 3 .pick [(.slot 15), (.res 2), (.const (.bool false))] none
    (.q 5 (.fld 0) [(.slot 10)] (some ((.res 3), true))
    (.q 6 .ld [(.res 5)] (some ((.res 3), true))
    (.q 7 (.icm .eql) [(.res 6), (.const (.int .i64 9223372036854775807))] (some ((.res 3), true))
    (.q 8 .mv [(.res 7)] (some ((.res 3), true))
    (.q 9 (.lda 2) [(.slot 10)] (some ((.res 8), false))
    (.q 10 (.lda 2) [(.slot 10)] (some ((.res 8), false))
    (.q 11 .mv [(.slot 6)] (some ((.res 8), false))
    (.x 12 (.call 17) [(.res 10), (.res 11)] (some ((.res 8), false)) [(9, (.lda 2), [(.slot 10)], (some ((.res 8), false)))]
    (.x 13 (.call 16) [(.res 9), (.res 12)] (some ((.res 8), false)) []
    (.q 14 .pick [(.res 8), (.const (.bool true)), (.res 13)] (some ((.res 3), true))
    (.q 15 .pick [(.res 3), (.res 14), (.const (.bool false))] none
    (.q 17 .mv [(.slot 17)] (some ((.res 15), true))
    (.q 18 (.eqp true) [(.res 17), (.const (.pointer none))] (some ((.res 15), true))
    (.q 19 .pick [(.res 15), (.res 18), (.const (.bool false))] none
    (.q 21 .mv [(.slot 18)] (some ((.res 19), true))
    (.q 22 (.eqp true) [(.res 21), (.const (.pointer none))] (some ((.res 19), true))
    (.q 23 .pick [(.res 19), (.res 22), (.const (.bool false))] none
    (.q 25 .mv [(.slot 17)] (some ((.res 23), true))
    (.q 27 .mv [(.slot 18)] (some ((.res 23), true))
    orderTail)))))))))))))))))))))
    [6, 10, 15, 16, 17, 18]) .ret
set_option maxHeartbeats 2000000 in
theorem orderTail_spec {m M : Mem} {σ : Env} {L : Nat → Value} {K : Env → Mem → Prop} {s t : Value} {sb sr tb tr : Nat} {ls lt : List (Int × Int)} (h17 : L 17 = s) (h18 : L 18 = t) (h23 : Env.get σ 23 = .bool true) (h25 : Env.get σ 25 = s) (h27 : Env.get σ 27 = t)
    (hs : SetIs M s sb sr ls) (ht : SetIs M t tb tr lt) (hp : ls.Perm lt) (hl : ls.length < 1000000000) (f : Fr m M []) (hK : ∀ m', Fr m m' [] → K [(14, .bool true)] m') : etP Try.prog L orderTail σ M K := by
  have hlt : lt.length < 1000000000 := by rw [← hp.length_eq]; exact hl
  unfold orderTail
  simp (disch := omega) only [go_sem, h23, h25]
  refine call_with (list_spec hs hl) ?_
  rintro u1 m1 ⟨l1, hp1, ha1, ho1, f1, _⟩
  simp (disch := omega) only [go_sem, h23, h27]
  refine call_with (list_spec (ht.frame f1 (by simp) (by simp)) hlt) ?_
  rintro u2 m2 ⟨l2, hp2, ha2, ho2, f2, _⟩
  have e : l1 = l2 := asc_eq (hp1.trans (hp.trans hp2.symm)) ha1 ha2
  have hl1 := hp1.length_eq
  have hl2 := hp2.length_eq
  simp (disch := omega) only [go_sem, h23]
  refine call_with (same_spec u1 u2 l1 l2 m2 (ho1.rdp.frame f2) ho2.rdp (by omega) (by omega)) ?_
  rintro v m3 ⟨rfl, rfl⟩
  have hs3 := (hs.frame f1 (by simp) (by simp)).frame f2 (by simp) (by simp)
  have ht3 := (ht.frame f1 (by simp) (by simp)).frame f2 (by simp) (by simp)
  simp (disch := omega) only [go_sem, h23, e, decide_true, if_true, h17, h18]
  refine call_with (len_spec hs3) ?_
  rintro v m4 ⟨rfl, rfl⟩
  simp (disch := omega) only [go_sem]
  refine call_with (len_spec ht3) ?_
  rintro v m5 ⟨rfl, rfl⟩
  simp (disch := omega) only [go_sem, hp.length_eq, decide_true, if_true]
  refine call_with (runs_spec m5) ?_
  rintro v m6 ⟨rfl, f6⟩
  simp (disch := omega) only [go_sem, if_true]
  exact hK _ (((f.trans0 f1).trans0 f2).trans0 f6)

set_option maxHeartbeats 2000000 in
theorem orderEnd_spec {m M : Mem} {s t w : Value} {sb sr tb tr : Nat} {ls lt : List (Int × Int)} {x : Int × Int} {r : Int} (hx : PairAt M w x 35) (hR : x.1 ≤ 9223372036854775807) (hR2 : -9223372036854775808 ≤ x.1)
    (hs : SetIs M s sb sr ls) (ht : SetIs M t tb tr lt) (hp : ls.Perm lt) (hl : ls.length < 1000000000) (f : Fr m M []) :
    wpN Try.prog orderEnd (retP [.slot 14] fun v m' => v = .bool true ∧ Fr m m' []) [(6, .int .i64 r), (10, w), (15, .bool true), (16, .bool true), (17, s), (18, t)] M := by
  have hsp := hs.ptr
  have htp := ht.ptr
  subst hsp htp
  have hx' := hx
  obtain ⟨wb, rfl, hw⟩ := hx
  unfold orderEnd
  by_cases he : x.1 = 9223372036854775807
  · simp (disch := omega) only [go_sem, if_true, hw, decide_eq_true he, undef, Option.isSome_some, Bool.false_eq_true, if_false]
    refine orderTail_spec rfl rfl (by simp [Env.get]) (by simp [Env.get]) (by simp [Env.get]) hs ht hp hl f fun m' hf => ?_
    simp (disch := omega) only [go_sem]
    exact ⟨rfl, hf⟩
  · simp (disch := omega) only [go_sem, if_true, hw, decide_eq_false he]
    refine call_with (next_spec x.1 x.2 r M) ?_
    rintro v m1 ⟨rfl, f1⟩
    have hw1 := f1.get0 hw
    rw [IntWalk.i64_in (x.1 + 1) (by omega)]
    simp (disch := omega) only [go_sem, hw1]
    refine call_with (below_spec x.1 x.2 (x.1 + 1) r m1) ?_
    rintro v m2 ⟨rfl, f2⟩
    have f12 := f1.trans0 f2
    simp (disch := omega) only [go_sem, if_true, dec_t, Option.isSome_some, Bool.false_eq_true, if_false]
    refine orderTail_spec rfl rfl (by simp [Env.get]) (by simp [Env.get]) (by simp [Env.get]) (hs.frame f12 (by simp) (by simp)) (ht.frame f12 (by simp) (by simp)) hp hl (f.trans0 f12) fun m' hf => ?_
    simp (disch := omega) only [go_sem]
    exact ⟨rfl, hf⟩

/-! the two sets -/
def orderSets : NC := .seq iorder_r3 orderEnd
theorem addAll_perm (a b c : Int × Int) : (addAll [a, b, c]).Perm (addAll [c, a, a, b]) := by
  have nd : ∀ l : List (Int × Int), (addAll l).Nodup ∧ ∀ x, x ∈ addAll l ↔ x ∈ l := by
    intro l
    have go : ∀ (l acc : List (Int × Int)), acc.Nodup → (l.foldl addL acc).Nodup ∧ ∀ x, x ∈ l.foldl addL acc ↔ x ∈ acc ∨ x ∈ l := by
      intro l
      induction l with
      | nil => intro acc h; exact ⟨h, fun x => by simp⟩
      | cons y r ih =>
        intro acc h
        have h1 : (addL acc y).Nodup ∧ ∀ x, x ∈ addL acc y ↔ x ∈ acc ∨ x = y := by
          unfold addL
          split
          · rename_i hy
            exact ⟨h, fun x => ⟨.inl, fun h => h.elim id fun e => e ▸ hy⟩⟩
          · rename_i hy
            exact ⟨List.nodup_append.2 ⟨h, by simp, fun a ha b hb => by simp at hb; rintro rfl; exact hy (hb ▸ ha)⟩, fun x => by simp⟩
        obtain ⟨h2, h3⟩ := ih _ h1.1
        exact ⟨h2, fun x => by rw [List.foldl_cons, h3, h1.2]; simp [or_assoc]⟩
    obtain ⟨h1, h2⟩ := go l [] List.nodup_nil
    exact ⟨h1, fun x => by rw [addAll, h2]; simp⟩
  refine (List.perm_ext_iff_of_nodup (nd _).1 (nd _).1).2 fun x => ?_
  rw [(nd _).2, (nd _).2]
  simp only [List.mem_cons, List.not_mem_nil, or_false]
  constructor
  · rintro (h | h | h) <;> simp [h]
  · rintro (h | h | h | h) <;> simp [h]
theorem addAll_len3 (a b c : Int × Int) : (addAll [a, b, c]).length < 1000000000 := by
  have h1 : ∀ l k, (addL l k).length ≤ l.length + 1 := fun l k => by unfold addL; split <;> simp
  have := h1 (addL (addL [] a) b) c
  have := h1 (addL [] a) b
  have := h1 [] a
  show (addL (addL (addL [] a) b) c).length < _
  simp at *; omega

set_option maxHeartbeats 2000000 in
theorem orderSets_spec {m M : Mem} {va vb vc w : Value} {a b c x : Int × Int} {r : Int} (ha : PairAt M va a 25) (hb : PairAt M vb b 25) (hc : PairAt M vc c 25) (hx : PairAt M w x 35) (hR : x.1 ≤ 9223372036854775807) (hR2 : -9223372036854775808 ≤ x.1) (f : Fr m M []) :
    wpN Try.prog orderSets (retP [.slot 14] fun v m' => v = .bool true ∧ Fr m m' []) [(6, .int .i64 r), (7, va), (8, vb), (9, vc), (10, w), (15, .bool true), (16, .bool true)] M := by
  have fin : ∀ (N : Mem) (s t : Value) (sb sr tb tr : Nat), Fr M N [] → SetIs N s sb sr (addAll [a, b, c]) → SetIs N t tb tr (addAll [c, a, a, b]) →
      wpN Try.prog orderEnd (retP [.slot 14] fun v m' => v = .bool true ∧ Fr m m' []) [(6, .int .i64 r), (10, w), (15, .bool true), (16, .bool true), (17, s), (18, t)] N := fun N s t sb sr tb tr g hs ht =>
    orderEnd_spec (hx.frame g) hR hR2 hs ht (addAll_perm a b c) (addAll_len3 a b c) (f.trans0 g)
  have l3 : ∀ {N : Mem} {b0 : Nat}, RdP (N.set b0 (.cells #[.int .i64 a.1, .int .i64 a.2, .int .i64 b.1, .int .i64 b.2, .int .i64 c.1, .int .i64 c.2] 25)) (.slice (some ⟨b0, 0, none⟩) 3 3) [a, b, c] := fun {N b0} =>
    RdP.lit 3 3 (l := [a, b, c]) (set_self b0 _) rfl
  have l4 : ∀ {N : Mem} {b0 : Nat}, RdP (N.set b0 (.cells #[.int .i64 c.1, .int .i64 c.2, .int .i64 a.1, .int .i64 a.2, .int .i64 a.1, .int .i64 a.2, .int .i64 b.1, .int .i64 b.2] 25)) (.slice (some ⟨b0, 0, none⟩) 4 4) [c, a, a, b] := fun {N b0} =>
    RdP.lit 4 4 (l := [c, a, a, b]) (set_self b0 _) rfl
  have vci : ∀ p : Int × Int, vcl (ip p) = [.int .i64 p.1, .int .i64 p.2] := fun _ => rfl
  have three : ∀ p : Int × Int, decide (3 < 1000000) = true := fun _ => rfl
  have cells : ∀ {N : Mem}, Fr M N [] → rd (.lda 2) [va] N = some (ip a) ∧ rd (.lda 2) [vb] N = some (ip b) ∧ rd (.lda 2) [vc] N = some (ip c) := fun g => ⟨(ha.frame g).rd, (hb.frame g).rd, (hc.frame g).rd⟩
  unfold orderSets
  obtain ⟨a1, b1, c1⟩ := cells (Fr.refl M [])
  simp (disch := omega) only [go_sem, a1, b1, c1]
  refine both_intro ?_ ?_
  · simp (disch := omega) only [go_sem, vci]
    refine newP_intro fun b3 hb3 => ?_
    have g1 := Fr.new (o := .cells #[.int .i64 a.1, .int .i64 a.2, .int .i64 b.1, .int .i64 b.2, .int .i64 c.1, .int .i64 c.2] 25) [] hb3
    have k3 := l3 (N := M) (b0 := b3)
    generalize M.set b3 (.cells #[.int .i64 a.1, .int .i64 a.2, .int .i64 b.1, .int .i64 b.2, .int .i64 c.1, .int .i64 c.2] 25) = N1 at g1 k3 ⊢
    obtain ⟨a1, b1, c1⟩ := cells g1
    simp (disch := omega) only [go_sem, a1, b1, c1]
    refine both_intro ?_ ?_
    · simp (disch := omega) only [go_sem]
      refine call_with (new_spec _ _ N1 k3 (by simp)) ?_
      rintro s N2 ⟨sb, sr, hs, g2, _⟩
      have g12 := g1.trans0 g2
      obtain ⟨a1, b1, c1⟩ := cells g12
      simp (disch := omega) only [go_sem, a1, b1, c1, vci]
      refine newP_intro fun b4 hb4 => ?_
      have g3 := Fr.new (o := .cells #[.int .i64 c.1, .int .i64 c.2, .int .i64 a.1, .int .i64 a.2, .int .i64 a.1, .int .i64 a.2, .int .i64 b.1, .int .i64 b.2] 25) [] hb4
      have k4 := l4 (N := N2) (b0 := b4)
      generalize N2.set b4 (.cells #[.int .i64 c.1, .int .i64 c.2, .int .i64 a.1, .int .i64 a.2, .int .i64 a.1, .int .i64 a.2, .int .i64 b.1, .int .i64 b.2] 25) = N3 at g3 k4 ⊢
      obtain ⟨a1, b1, c1⟩ := cells (g12.trans0 g3)
      simp (disch := omega) only [go_sem, a1, b1, c1]
      refine call_with (new_spec _ _ N3 k4 (by simp)) ?_
      rintro t N4 ⟨tb, tr, ht, g4, _⟩
      simp (disch := omega) only [go_sem]
      exact fin N4 s t sb sr tb tr ((g12.trans0 g3).trans0 g4) ((hs.frame g3 (by simp) (by simp)).frame g4 (by simp) (by simp)) ht
    · simp (disch := omega) only [go_sem, vci]
      refine newP_intro fun b4 hb4 => ?_
      have g3 := Fr.new (o := .cells #[.int .i64 c.1, .int .i64 c.2, .int .i64 a.1, .int .i64 a.2, .int .i64 a.1, .int .i64 a.2, .int .i64 b.1, .int .i64 b.2] 25) [] hb4
      have k4 := l4 (N := N1) (b0 := b4)
      generalize N1.set b4 (.cells #[.int .i64 c.1, .int .i64 c.2, .int .i64 a.1, .int .i64 a.2, .int .i64 a.1, .int .i64 a.2, .int .i64 b.1, .int .i64 b.2] 25) = N3 at g3 k4 ⊢
      obtain ⟨a1, b1, c1⟩ := cells (g1.trans0 g3)
      simp (disch := omega) only [go_sem, a1, b1, c1]
      refine call_with (new_spec _ _ N3 (k3.frame g3) (by simp)) ?_
      rintro s N2 ⟨sb, sr, hs, g2, _⟩
      obtain ⟨a1, b1, c1⟩ := cells ((g1.trans0 g3).trans0 g2)
      simp (disch := omega) only [go_sem, a1, b1, c1]
      refine call_with (new_spec _ _ N2 (k4.frame g2) (by simp)) ?_
      rintro t N4 ⟨tb, tr, ht, g4, _⟩
      simp (disch := omega) only [go_sem]
      exact fin N4 s t sb sr tb tr (((g1.trans0 g3).trans0 g2).trans0 g4) (hs.frame g4 (by simp) (by simp)) ht
  · simp (disch := omega) only [go_sem, vci]
    refine newP_intro fun b4 hb4 => ?_
    have g3 := Fr.new (o := .cells #[.int .i64 c.1, .int .i64 c.2, .int .i64 a.1, .int .i64 a.2, .int .i64 a.1, .int .i64 a.2, .int .i64 b.1, .int .i64 b.2] 25) [] hb4
    have k4 := l4 (N := M) (b0 := b4)
    generalize M.set b4 (.cells #[.int .i64 c.1, .int .i64 c.2, .int .i64 a.1, .int .i64 a.2, .int .i64 a.1, .int .i64 a.2, .int .i64 b.1, .int .i64 b.2] 25) = N1 at g3 k4 ⊢
    obtain ⟨a1, b1, c1⟩ := cells g3
    simp (disch := omega) only [go_sem, a1, b1, c1, vci]
    refine newP_intro fun b3 hb3 => ?_
    have g1 := Fr.new (o := .cells #[.int .i64 a.1, .int .i64 a.2, .int .i64 b.1, .int .i64 b.2, .int .i64 c.1, .int .i64 c.2] 25) [] hb3
    have k3 := l3 (N := N1) (b0 := b3)
    generalize N1.set b3 (.cells #[.int .i64 a.1, .int .i64 a.2, .int .i64 b.1, .int .i64 b.2, .int .i64 c.1, .int .i64 c.2] 25) = N3 at g1 k3 ⊢
    obtain ⟨a1, b1, c1⟩ := cells (g3.trans0 g1)
    simp (disch := omega) only [go_sem, a1, b1, c1]
    refine call_with (new_spec _ _ N3 k3 (by simp)) ?_
    rintro s N2 ⟨sb, sr, hs, g2, _⟩
    obtain ⟨a1, b1, c1⟩ := cells ((g3.trans0 g1).trans0 g2)
    simp (disch := omega) only [go_sem, a1, b1, c1]
    refine call_with (new_spec _ _ N2 ((k4.frame g1).frame g2) (by simp)) ?_
    rintro t N4 ⟨tb, tr, ht, g4, _⟩
    simp (disch := omega) only [go_sem]
    exact fin N4 s t sb sr tb tr (((g3.trans0 g1).trans0 g2).trans0 g4) (hs.frame g4 (by simp) (by simp)) ht

set_option maxHeartbeats 2000000 in
theorem iorder_spec (m : Mem) (a b c x y z : Int × Int) (r : Int) (hR : -9223372036854775808 ≤ x.1 ∧ x.1 ≤ 9223372036854775807) :
    MC Try.prog 5 [ip a, ip b, ip c, ip x, ip y, ip z, .int .i64 r] m fun v m' => v = .bool true ∧ Fr m m' [] := by
  refine MC_start Try.func5 iorder_ok (by kernel_rfl) (by simp [Try.f5]) ?_
  show wpN Try.prog (.seq iorder_r0 (.seq (.reg (ordET 7 8 9 15 (.out [(6, (.slot 6)), (7, (.slot 7)), (8, (.slot 8)), (9, (.slot 9)), (10, (.slot 10)), (11, (.slot 11)), (12, (.slot 12)), (15, (.res 34))])) [6, 7, 8, 9, 10, 11, 12])
    (.seq (.reg (ordET 10 11 12 16 (.out [(6, (.slot 6)), (7, (.slot 7)), (8, (.slot 8)), (9, (.slot 9)), (10, (.slot 10)), (15, (.slot 15)), (16, (.res 34))])) [6, 7, 8, 9, 10, 11, 12, 15]) orderSets))) _ _ _
  have box : ∀ {M : Mem} {b0 : Nat} {p : Int × Int} {T : Nat}, PairAt (M.set b0 (.cells #[.int .i64 p.1, .int .i64 p.2] T)) (.pointer (some ⟨b0, 0, none⟩)) p T := fun {M b0 p T} => ⟨b0, rfl, set_self b0 _⟩
  have lt : ∀ (f : Nat), (∀ a b c d m, MC Try.prog f [.agg #[.int .i64 a, .int .i64 b], .agg #[.int .i64 c, .int .i64 d]] m fun v m' => v = .bool (decide (a < c ∨ a = c ∧ b < d)) ∧ Fr m m' []) →
      ∀ x y m, MC Try.prog f [ip x, ip y] m fun v m' => v = .bool (decide (lt2 x y)) ∧ Fr m m' [] := fun f h x y m => h x.1 x.2 y.1 y.2 m
  simp (disch := omega) only [go_sem, ip]
  refine newP_intro fun b1 hb1 => ?_
  have f1 := Fr.new (o := .cells #[.int .i64 a.1, .int .i64 a.2] 25) [] hb1
  have k1 := box (M := m) (b0 := b1) (p := a) (T := 25)
  simp (disch := omega) only [go_sem]
  generalize m.set b1 (.cells #[.int .i64 a.1, .int .i64 a.2] 25) = m1 at f1 k1 ⊢
  refine newP_intro fun b2 hb2 => ?_
  have f2 := f1.trans0 (Fr.new (o := .cells #[.int .i64 b.1, .int .i64 b.2] 25) [] hb2)
  have k2 := box (M := m1) (b0 := b2) (p := b) (T := 25)
  replace k1 := k1.frame (Fr.new (o := .cells #[.int .i64 b.1, .int .i64 b.2] 25) [] hb2)
  simp (disch := omega) only [go_sem]
  generalize m1.set b2 (.cells #[.int .i64 b.1, .int .i64 b.2] 25) = m2 at f2 k1 k2 ⊢
  refine newP_intro fun b3 hb3 => ?_
  have g3 := Fr.new (o := .cells #[.int .i64 c.1, .int .i64 c.2] 25) [] hb3
  have f3 := f2.trans0 g3
  have k3 := box (M := m2) (b0 := b3) (p := c) (T := 25)
  replace k1 := k1.frame g3
  replace k2 := k2.frame g3
  simp (disch := omega) only [go_sem]
  generalize m2.set b3 (.cells #[.int .i64 c.1, .int .i64 c.2] 25) = m3 at f3 k1 k2 k3 ⊢
  refine newP_intro fun b4 hb4 => ?_
  have g4 := Fr.new (o := .cells #[.int .i64 x.1, .int .i64 x.2] 35) [] hb4
  have f4 := f3.trans0 g4
  have k4 := box (M := m3) (b0 := b4) (p := x) (T := 35)
  replace k1 := k1.frame g4
  replace k2 := k2.frame g4
  replace k3 := k3.frame g4
  simp (disch := omega) only [go_sem]
  generalize m3.set b4 (.cells #[.int .i64 x.1, .int .i64 x.2] 35) = m4 at f4 k1 k2 k3 k4 ⊢
  refine newP_intro fun b5 hb5 => ?_
  have g5 := Fr.new (o := .cells #[.int .i64 y.1, .int .i64 y.2] 35) [] hb5
  have f5 := f4.trans0 g5
  have k5 := box (M := m4) (b0 := b5) (p := y) (T := 35)
  replace k1 := k1.frame g5
  replace k2 := k2.frame g5
  replace k3 := k3.frame g5
  replace k4 := k4.frame g5
  simp (disch := omega) only [go_sem]
  generalize m4.set b5 (.cells #[.int .i64 y.1, .int .i64 y.2] 35) = m5 at f5 k1 k2 k3 k4 k5 ⊢
  refine newP_intro fun b6 hb6 => ?_
  have g6 := Fr.new (o := .cells #[.int .i64 z.1, .int .i64 z.2] 35) [] hb6
  have f6 := f5.trans0 g6
  have k6 := box (M := m5) (b0 := b6) (p := z) (T := 35)
  replace k1 := k1.frame g6
  replace k2 := k2.frame g6
  replace k3 := k3.frame g6
  replace k4 := k4.frame g6
  replace k5 := k5.frame g6
  simp (disch := omega) only [go_sem]
  generalize m5.set b6 (.cells #[.int .i64 z.1, .int .i64 z.2] 35) = M at f6 k1 k2 k3 k4 k5 k6 ⊢
  refine ord_spec (lt 15 less_spec) k1 k2 k3 fun σ N hσ g => ?_
  simp (disch := omega) only [go_sem, hσ]
  refine ord_spec (lt 16 below_spec) (k4.frame g) (k5.frame g) (k6.frame g) fun σ2 N2 hσ2 g2 => ?_
  simp (disch := omega) only [go_sem, hσ2]
  have gg := g.trans0 g2
  exact orderSets_spec (k1.frame gg) (k2.frame gg) (k3.frame gg) (k4.frame gg) hR.2 hR.1 (f6.trans0 gg)
end Go.Fw
