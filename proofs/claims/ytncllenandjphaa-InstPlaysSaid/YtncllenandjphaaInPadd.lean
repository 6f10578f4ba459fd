import Derived.Test.YtncllenandjphaaInPlays
namespace Go.Fw
open Go.Proofs
def paddEnd : NC := .seq padd_r6 (.seq padd_r7 .ret)

set_option maxHeartbeats 2000000 in
theorem paddEnd_spec {m M : Mem} {wb b1 : Nat} {a : Option Addr} {c k : Nat} {W : List (Int × Int)} {i : Int × Int} (hwm : m wb ≠ none) (hwb : M wb = some (.cells #[.slice a W.length c] 29 (0, 0)))
    (ho : Own M 25 2 (.slice a W.length c) W.length (prs W)) (hb1 : M b1 = some (.cells #[.int .i64 i.1, .int .i64 i.2] 25 (0, 0))) (hl : W.length < 1000) (hk : k ≤ W.length) (f : Fr m M [])
    {R : Value → Mem → Prop} (hR : ∀ v' m', m' wb = some (.cells #[v'] 29 (0, 0)) → Own m' 25 2 v' (W.take k ++ i :: W.drop k).length (prs (W.take k ++ i :: W.drop k)) → Fr m m' [wb] → (∀ b ∈ blkOf v', b ≠ wb ∧ m b = none) → R (.bool true) m') :
    wpN Try.prog paddEnd (retP [.slot 3] R) [(1, .pointer (some ⟨wb, 0, none⟩)), (2, .pointer (some ⟨b1, 0, none⟩)), (4, .int .i64 (k : Nat))] M := by
  obtain ⟨hc, ht, hd⟩ := own_cut ho hk
  have hcut1 : cutS 2 a c 0 (k : Int) = some (.slice a k c) := by rw [cutS_0 _ _ _ _ ⟨by omega, by omega⟩]; simp
  have hcut2 : cutS 2 a c (k : Int) (W.length : Int) = some (.slice (if c = k then a else a.map (·.add (k * 2))) (W.length - k) (c - k)) := by
    rw [cutS_in _ _ _ _ _ ⟨by omega, by omega, by omega⟩]; simp
  have hin : ∀ x, a = some x → M x.block ≠ none := fun x hx => ho.there x.block (by rw [hx]; simp [blkOf])
  generalize hA2 : (if c = k then a else a.map (·.add (k * 2))) = A2 at hd hcut2
  have hin2 : ∀ x, A2 = some x → M x.block ≠ none := by
    intro x hx
    rw [← hA2] at hx
    split at hx
    · exact hin x hx
    · obtain ⟨y, hy, rfl⟩ := Option.map_eq_some_iff.1 hx
      have : (y.add (k * 2)).block = y.block := by unfold Addr.add; split <;> rfl
      rw [this]; exact hin y hy
  -- the three appends
  have step1 : ∀ (N : Mem) (b2 : Nat) (K : Value → Mem → Prop) (l : Lk K) (l1 : Lk (Value.slice (some ⟨b2, 0, none⟩) 0 0)) (l2 : Lk N), Fr M N [] → M b2 = none → N b2 = some (.cells #[] 25 (0, 0)) →
      (∀ v N', Own N' 25 2 v k (prs (W.take k)) → Fr N N' [b2] → (∀ b ∈ blkOf v, b = b2 ∨ N b = none) → K v N') → appQ Try.prog 25 2 16 [.int .i64 0, .int .i64 0] (.slice (some ⟨b2, 0, none⟩) 0 0) (.slice a k c) N K l l1 l2 := by
    intro N b2 K l l1 l2 g hb2 hN hK
    have h0 : Own N 25 2 (.slice (some ⟨b2, 0, none⟩) 0 0) 0 [] := ⟨rfl, .inr ⟨b2, 0, [], rfl, hN, rfl⟩⟩
    refine app_own (k := k) h0 rfl (ldS_frame ht g (fun x hx => by simp)) (by rw [prs_len, List.length_take]; omega) (prs_one _) rfl (by omega) (by omega) ?_
    intro v N' ho' g' hblk
    refine hK v N' (by simpa using ho') (by simpa [blkOf] using g') fun b hb => ?_
    rcases hblk b hb with h | h
    · left; simpa [blkOf] using h
    · exact .inr h
  have step2 : ∀ (N : Mem) (b3 : Nat) (v : Value) (K : Value → Mem → Prop) (l : Lk K) (l1 : Lk v) (l2 : Lk N), Own N 25 2 v k (prs (W.take k)) → N b3 = some (.cells #[.int .i64 i.1, .int .i64 i.2] 25 (0, 0)) →
      (∀ v' N', Own N' 25 2 v' (k + 1) (prs (W.take k ++ [i])) → Fr N N' (blkOf v) → (∀ b ∈ blkOf v', b ∈ blkOf v ∨ N b = none) → K v' N') → appQ Try.prog 25 2 16 [.int .i64 0, .int .i64 0] v (.slice (some ⟨b3, 0, none⟩) 1 1) N K l l1 l2 := by
    intro N b3 v K l l1 l2 hv hN hK
    refine app_own (k := 1) hv rfl (news := [.int .i64 i.1, .int .i64 i.2]) ?_ rfl (by intro v hv; simp at hv; rcases hv with rfl | rfl <;> rfl) rfl (by omega) (by omega) ?_
    · simp only [ldS]
      rw [ldCells_row (l := [.int .i64 i.1, .int .i64 i.2]) hN 2 0 0 (by simp)]; rfl
    · intro v' N' ho' g' hblk
      exact hK v' N' (by rw [prs_app]; exact ho') g' hblk
  have step3 : ∀ (N : Mem) (v : Value) (K : Value → Mem → Prop) (l : Lk K) (l1 : Lk v) (l2 : Lk N), Own N 25 2 v (k + 1) (prs (W.take k ++ [i])) → (∃ S, Fr M N S ∧ (∀ x ∈ S, M x = none)) →
      (∀ v' N', Own N' 25 2 v' (W.take k ++ i :: W.drop k).length (prs (W.take k ++ i :: W.drop k)) → Fr N N' (blkOf v) → (∀ b ∈ blkOf v', b ∈ blkOf v ∨ N b = none) → K v' N') → appQ Try.prog 25 2 16 [.int .i64 0, .int .i64 0] v (.slice A2 (W.length - k) (c - k)) N K l l1 l2 := by
    rintro N v K l l1 l2 hv ⟨S, g, hS⟩ hK
    refine app_own (k := W.length - k) hv rfl (ldS_frame hd g (fun x hx h => hin2 x hx (hS _ h))) (by rw [prs_len, List.length_drop]) (prs_one _) rfl (by omega) (by omega) ?_
    intro v' N' ho' g' hblk
    refine hK v' N' ?_ g' hblk
    have e : W.take k ++ i :: W.drop k = (W.take k ++ [i]) ++ W.drop k := by simp
    have el : (W.take k ++ i :: W.drop k).length = k + 1 + (W.length - k) := by simp; omega
    rw [el, e, prs_app]
    exact ho'
  have drop : ∀ {N N' : Mem} {S : List Nat}, Fr M N [] → Fr N N' S → (∀ x ∈ S, M x = none) → Fr M N' [] := fun g f' hS => g.trans f' (fun x hx hx0 => absurd (hS x hx) hx0)
  have keep : ∀ {N : Mem}, Fr M N [] → N wb = some (.cells #[.slice a W.length c] 29 (0, 0)) ∧ N b1 = some (.cells #[.int .i64 i.1, .int .i64 i.2] 25 (0, 0)) := fun g => ⟨g.get0 hwb, g.get0 hb1⟩
  have fin : ∀ (N : Mem) (v5 : Value), Fr M N [] → Own N 25 2 v5 (W.take k ++ i :: W.drop k).length (prs (W.take k ++ i :: W.drop k)) → (∀ b ∈ blkOf v5, M b = none) → R (.bool true) (N.set wb (.cells #[v5] 29 (0, 0))) := by
    intro N v5 g ho5 hv5
    have hne : ∀ b ∈ blkOf v5, b ≠ wb := fun b hb e => by
      have := hv5 b hb
      rw [e, hwb] at this; cases this
    exact hR v5 _ (set_self _ _) (ho5.frame (S := [wb]) (Fr.set (by simp)) (fun b hb h => hne b hb (by simpa using h))) ((f.trans0 g).sub (by simp) |>.transS (Fr.set (by simp))) fun b hb => ⟨hne b hb, fresh_fr f (hv5 b hb)⟩
  have last : ∀ (N : Mem) (v4 : Value), Fr M N [] → Own N 25 2 v4 (k + 1) (prs (W.take k ++ [i])) → (∀ b ∈ blkOf v4, M b = none) → ∀ (K : Value → Mem → Prop) (l : Lk K) (l1 : Lk v4) (l2 : Lk N),
      (∀ a5 c5 N', N' wb = some (.cells #[.slice a W.length c] 29 (0, 0)) → R (.bool true) (N'.set wb (.cells #[.slice a5 (W.take k ++ i :: W.drop k).length c5] 29 (0, 0))) → K (.slice a5 (W.take k ++ i :: W.drop k).length c5) N') →
      appQ Try.prog 25 2 16 [.int .i64 0, .int .i64 0] v4 (.slice A2 (W.length - k) (c - k)) N K l l1 l2 := by
    intro N v4 g ho4 hv4 K l l1 l2 hK
    refine step3 N v4 K l l1 l2 ho4 ⟨[], g, by simp⟩ fun v5 N5 ho5 f5 hbl5 => ?_
    have g5 := drop g f5 hv4
    have hv5 : ∀ b ∈ blkOf v5, M b = none := fun b hb => (hbl5 b hb).elim (hv4 b) (fresh_fr g)
    have hf := fin N5 v5 g5 ho5 hv5
    obtain ⟨a5, c5, rfl⟩ := ho5.form
    exact hK a5 c5 N5 (g5.get0 hwb) hf
  unfold paddEnd
  simp (disch := omega) only [go_sem, hwb, hb1, hcut1, hcut2]
  refine both_intro ?_ ?_
  · simp (disch := omega) only [go_sem]
    refine newP_intro fun b2 hb2 => ?_
    have g1 : Fr M (M.set b2 (.cells #[] 25 (0, 0))) [] := Fr.new _ hb2
    have h2 := set_self (m := M) b2 (.cells #[] 25 (0, 0))
    generalize M.set b2 (.cells #[] 25 (0, 0)) = N1 at g1 h2 ⊢
    obtain ⟨kw, kb⟩ := keep g1
    simp (disch := omega) only [go_sem, kw, kb]
    refine both_intro ?_ ?_
    · simp (disch := omega) only [go_sem]
      refine step1 N1 b2 _ _ _ _ g1 hb2 h2 fun v3 N2 ho3 f3 hbl3 => ?_
      have g2 := drop g1 f3 (fun x hx => by simp at hx; subst hx; exact hb2)
      have hv3 : ∀ b ∈ blkOf v3, M b = none := fun b hb => (hbl3 b hb).elim (fun e => e ▸ hb2) (fresh_fr g1)
      obtain ⟨kw, kb⟩ := keep g2
      simp (disch := omega) only [go_sem, kw, kb]
      refine newP_intro fun b3 hb3 => ?_
      have f4 : Fr N2 (N2.set b3 (.cells #[.int .i64 i.1, .int .i64 i.2] 25 (0, 0))) [] := Fr.new _ hb3
      have h3 := set_self (m := N2) b3 (.cells #[.int .i64 i.1, .int .i64 i.2] 25 (0, 0))
      generalize N2.set b3 (.cells #[.int .i64 i.1, .int .i64 i.2] 25 (0, 0)) = N3 at f4 h3 ⊢
      have g3 := g2.trans0 f4
      obtain ⟨kw, kb⟩ := keep g3
      simp (disch := omega) only [go_sem, kw, kb]
      refine step2 N3 b3 v3 _ _ _ _ (ho3.frame0 f4) h3 fun v4 N4 ho4 f5 hbl4 => ?_
      have g4 := drop g3 f5 hv3
      have hv4 : ∀ b ∈ blkOf v4, M b = none := fun b hb => (hbl4 b hb).elim (hv3 b) (fresh_fr g3)
      obtain ⟨kw, kb⟩ := keep g4
      simp (disch := omega) only [go_sem, kw, kb]
      refine last N4 v4 g4 ho4 hv4 _ _ _ _ fun a5 c5 N5 kw hf => ?_
      simp (disch := simp) only [go_sem, kw]
      exact hf
    · simp (disch := omega) only [go_sem]
      refine newP_intro fun b3 hb3 => ?_
      have f4 : Fr N1 (N1.set b3 (.cells #[.int .i64 i.1, .int .i64 i.2] 25 (0, 0))) [] := Fr.new _ hb3
      have h3 := set_self (m := N1) b3 (.cells #[.int .i64 i.1, .int .i64 i.2] 25 (0, 0))
      generalize N1.set b3 (.cells #[.int .i64 i.1, .int .i64 i.2] 25 (0, 0)) = N2 at f4 h3 ⊢
      have g2 := g1.trans0 f4
      obtain ⟨kw, kb⟩ := keep g2
      simp (disch := omega) only [go_sem, kw, kb]
      have h23 : b3 ≠ b2 := by rintro rfl; rw [h2] at hb3; cases hb3
      refine step1 N2 b2 _ _ _ _ g2 hb2 (f4.get0 h2) fun v3 N3 ho3 f3 hbl3 => ?_
      have g3 := drop g2 f3 (fun x hx => by simp at hx; subst hx; exact hb2)
      have hv3 : ∀ b ∈ blkOf v3, M b = none := fun b hb => (hbl3 b hb).elim (fun e => e ▸ hb2) (fresh_fr g2)
      have h3' := f3.get h3 (by simpa using h23)
      obtain ⟨kw, kb⟩ := keep g3
      simp (disch := omega) only [go_sem, kw, kb]
      refine step2 N3 b3 v3 _ _ _ _ ho3 h3' fun v4 N4 ho4 f5 hbl4 => ?_
      have g4 := drop g3 f5 hv3
      have hv4 : ∀ b ∈ blkOf v4, M b = none := fun b hb => (hbl4 b hb).elim (hv3 b) (fresh_fr g3)
      obtain ⟨kw, kb⟩ := keep g4
      simp (disch := omega) only [go_sem, kw, kb]
      refine last N4 v4 g4 ho4 hv4 _ _ _ _ fun a5 c5 N5 kw hf => ?_
      simp (disch := simp) only [go_sem, kw]
      exact hf
  · simp (disch := omega) only [go_sem]
    refine newP_intro fun b3 hb3 => ?_
    have g1 : Fr M (M.set b3 (.cells #[.int .i64 i.1, .int .i64 i.2] 25 (0, 0))) [] := Fr.new _ hb3
    have h3 := set_self (m := M) b3 (.cells #[.int .i64 i.1, .int .i64 i.2] 25 (0, 0))
    generalize M.set b3 (.cells #[.int .i64 i.1, .int .i64 i.2] 25 (0, 0)) = N1 at g1 h3 ⊢
    obtain ⟨kw, kb⟩ := keep g1
    simp (disch := omega) only [go_sem, kw, kb]
    refine newP_intro fun b2 hb2n => ?_
    have f4 : Fr N1 (N1.set b2 (.cells #[] 25 (0, 0))) [] := Fr.new _ hb2n
    have h2 := set_self (m := N1) b2 (.cells #[] 25 (0, 0))
    have h23 : b3 ≠ b2 := by rintro rfl; rw [h3] at hb2n; cases hb2n
    have hb2 := fresh_fr g1 hb2n
    generalize N1.set b2 (.cells #[] 25 (0, 0)) = N2 at f4 h2 ⊢
    have g2 := g1.trans0 f4
    obtain ⟨kw, kb⟩ := keep g2
    simp (disch := omega) only [go_sem, kw, kb]
    refine step1 N2 b2 _ _ _ _ g2 hb2 h2 fun v3 N3 ho3 f3 hbl3 => ?_
    have g3 := drop g2 f3 (fun x hx => by simp at hx; subst hx; exact hb2)
    have hv3 : ∀ b ∈ blkOf v3, M b = none := fun b hb => (hbl3 b hb).elim (fun e => e ▸ hb2) (fresh_fr g2)
    have h3' := f3.get (f4.get0 h3) (by simpa using h23)
    obtain ⟨kw, kb⟩ := keep g3
    simp (disch := omega) only [go_sem, kw, kb]
    refine step2 N3 b3 v3 _ _ _ _ ho3 h3' fun v4 N4 ho4 f5 hbl4 => ?_
    have g4 := drop g3 f5 hv3
    have hv4 : ∀ b ∈ blkOf v4, M b = none := fun b hb => (hbl4 b hb).elim (hv3 b) (fresh_fr g3)
    obtain ⟨kw, kb⟩ := keep g4
    simp (disch := omega) only [go_sem, kw, kb]
    refine last N4 v4 g4 ho4 hv4 _ _ _ _ fun a5 c5 N5 kw hf => ?_
    simp (disch := simp) only [go_sem, kw]
    exact hf

def paddMid : NC := .seq (.seq padd_r4 (.cond (.slot 30) (.seq padd_r5 .ret) .skip)) paddEnd

set_option maxHeartbeats 2000000 in
theorem padd_spec {m : Mem} {wb : Nat} {v : Value} {W : List (Int × Int)} (i : Int × Int) (hwb : m wb = some (.cells #[v] 29 (0, 0))) (ho : Own m 25 2 v W.length (prs W)) (ha : Asc W) (hl : W.length < 1000) :
    MC Try.prog 19 [ip i, .pointer (some ⟨wb, 0, none⟩)] m fun u m' => u = .bool (decide (i ∉ W)) ∧ ∃ v', m' wb = some (.cells #[v'] 29 (0, 0)) ∧ Own m' 25 2 v' (insA i W).length (prs (insA i W)) ∧ Fr m m' [wb] ∧
      ∀ b ∈ blkOf v', b ≠ wb ∧ (b ∈ blkOf v ∨ m b = none) := by
  have hne : ∀ b ∈ blkOf v, b ≠ wb := by
    rintro b hb rfl
    rcases ho.2 with ⟨rfl, _⟩ | ⟨b', cap, tail, rfl, hb', _⟩
    · simp [blkOf] at hb
    · simp only [blkOf, List.mem_singleton] at hb; subst hb; rw [hwb] at hb'; simp only [Option.some.injEq, Obj.cells.injEq] at hb'; exact absurd hb'.2.1 (by decide)
  obtain ⟨a, c, rfl⟩ := ho.form
  have hwm : m wb ≠ none := by rw [hwb]; exact Option.some_ne_none _
  refine MC_start Try.func19 padd_ok (by kernel_rfl) (by simp [Try.f19]) ?_
  show wpN Try.prog (.seq padd_r0 (.seq padd_r1 (.seq (.block 0 (.loop [1, 2, 4] padd_l0)) paddMid))) _ _ _
  simp (disch := omega) only [go_sem, ip]
  refine newP_intro fun b1 hb1n => ?_
  have f1 : Fr m (m.set b1 (.cells #[.int .i64 i.1, .int .i64 i.2] 25 (0, 0))) [] := Fr.new _ hb1n
  have hb1 := set_self (m := m) b1 (.cells #[.int .i64 i.1, .int .i64 i.2] 25 (0, 0))
  generalize m.set b1 (.cells #[.int .i64 i.1, .int .i64 i.2] 25 (0, 0)) = M at f1 hb1 ⊢
  simp (disch := omega) only [go_sem]
  refine loopQ_intro (fun n E m' => ∃ k : Nat, k ≤ W.length ∧ n = W.length - k ∧ E = [(1, .pointer (some ⟨wb, 0, none⟩)), (2, .pointer (some ⟨b1, 0, none⟩)), (4, .int .i64 (k : Nat))] ∧ Fr M m' [] ∧ ∀ j (hj : j < k) (hj' : j < W.length), lt2 W[j] i) W.length rfl
    ⟨0, by omega, by omega, by rfl, Fr.refl _ _, fun j hj => by omega⟩ ?_
  rintro n E N ⟨k, hk, rfl, rfl, g, hlt⟩
  have g0 := f1.trans0 g
  have kw := g0.get0 hwb
  have kb := g.get0 hb1
  have hoN := ho.frame0 g0
  -- behind the loop
  have stop : (∀ hk' : k < W.length, ¬ lt2 W[k] i) → ∀ N' : Mem, Fr N N' [] → wpN Try.prog paddMid (retP [.slot 3] fun u m' => u = .bool (decide (i ∉ W)) ∧ ∃ v', m' wb = some (.cells #[v'] 29 (0, 0)) ∧ Own m' 25 2 v' (insA i W).length (prs (insA i W)) ∧ Fr m m' [wb] ∧
      ∀ b ∈ blkOf v', b ≠ wb ∧ (b ∈ blkOf (.slice a W.length c) ∨ m b = none)) [(1, .pointer (some ⟨wb, 0, none⟩)), (2, .pointer (some ⟨b1, 0, none⟩)), (4, .int .i64 (k : Nat))] N' := by
    intro hstop N' g'
    have g0' := g0.trans0 g'
    have kw := g0'.get0 hwb
    have kb := (g.trans0 g').get0 hb1
    have hoN' := ho.frame0 g0'
    obtain ⟨e1, e2⟩ := asc_split ha i k hk (fun j hj => hlt j hj (by omega)) hstop
    have hins : i ∉ W → insA i W = W.take k ++ i :: W.drop k := fun h => by unfold insA; rw [if_neg h, e1, e2]
    have mem : i ∈ W ↔ ∃ hk' : k < W.length, W[k] = i := by
      constructor
      · intro hi
        have hid : i ∈ W.drop k := by
          rw [e2]; exact List.mem_filter.2 ⟨hi, decide_eq_true (by unfold lt2; omega)⟩
        obtain ⟨j, hj, hji⟩ := List.mem_iff_getElem.1 hid
        rw [List.length_drop] at hj
        rw [List.getElem_drop] at hji
        have hk' : k < W.length := by omega
        refine ⟨hk', ?_⟩
        rcases Nat.eq_zero_or_pos j with h0 | h0
        · subst h0; simpa using hji
        · have := (List.pairwise_iff_getElem.1 ha) k (k + j) hk' (by omega) (by omega)
          rw [hji] at this
          exact absurd this (hstop hk')
      · rintro ⟨hk', h⟩
        rw [← h]; exact List.getElem_mem _
    have ins : i ∉ W → wpN Try.prog paddEnd (retP [.slot 3] fun u m' => u = .bool (decide (i ∉ W)) ∧ ∃ v', m' wb = some (.cells #[v'] 29 (0, 0)) ∧ Own m' 25 2 v' (insA i W).length (prs (insA i W)) ∧ Fr m m' [wb] ∧
      ∀ b ∈ blkOf v', b ≠ wb ∧ (b ∈ blkOf (.slice a W.length c) ∨ m b = none)) [(1, .pointer (some ⟨wb, 0, none⟩)), (2, .pointer (some ⟨b1, 0, none⟩)), (4, .int .i64 (k : Nat))] N' := by
      intro hi
      refine paddEnd_spec hwm kw hoN' kb hl hk g0' fun v' m' h1 h2 h3 h4 => ⟨by rw [decide_eq_true hi], v', h1, ?_, h3, fun b hb => ⟨(h4 b hb).1, .inr (h4 b hb).2⟩⟩
      rw [hins hi]; exact h2
    unfold paddMid
    by_cases hk' : k < W.length
    · obtain ⟨b2, o2, ea, hc1, hd1⟩ := (show Rd1 N' a (prs W) from by
        obtain ⟨a', c', e, hr⟩ := hoN'.rdp
        cases e; exact hr).pair hk'
      subst ea
      have hi0 : (0 : Int) ≤ k ∧ (k : Int) < W.length := by omega
      simp (disch := omega) only [go_sem, kw, kb, dec_t, hc1, hd1]
      by_cases hw : W[k] = i
      · have e3 : (decide (W[k].1 = i.1) && decide (W[k].2 = i.2)) = true := by rw [hw]; simp
        simp (disch := omega) only [go_sem, e3, Bool.false_eq_true, if_false]
        have hi : i ∈ W := mem.2 ⟨hk', hw⟩
        refine ⟨by simp [hi], _, kw, ?_, g0'.sub (by simp), fun b hb => ⟨hne b hb, .inl hb⟩⟩
        rw [show insA i W = W from if_pos hi]; exact hoN'
      · have e3 : (decide (W[k].1 = i.1) && decide (W[k].2 = i.2)) = false := by
          rw [Bool.eq_false_iff]; intro h; simp at h; exact hw (Prod.ext h.1 h.2)
        simp (disch := omega) only [go_sem, e3, Bool.false_eq_true, if_false]
        exact ins fun hi => hw (mem.1 hi).2
    · simp (disch := omega) only [go_sem, kw, dec_f, undef, Bool.false_eq_true, if_false]
      exact ins fun hi => hk' (mem.1 hi).1
  by_cases hk' : k < W.length
  · obtain ⟨b2, o2, ea, hc1, hd1⟩ := (show Rd1 N a (prs W) from by
      obtain ⟨a', c', e, hr⟩ := hoN.rdp
      cases e; exact hr).pair hk'
    subst ea
    simp (disch := omega) only [go_sem, kw, kb, dec_t, hc1, hd1]
    refine call_with (rless_spec W[k].1 W[k].2 i.1 i.2 N) ?_
    rintro u N2 ⟨rfl, g2⟩
    simp (disch := omega) only [go_sem, if_true]
    refine condB_dec (fun hw => ?_) (fun hw => ?_)
    · simp (disch := omega) only [go_sem]
      refine handN_intro (W.length - (k + 1)) (by omega) ⟨k + 1, by omega, rfl, rfl, g.trans0 g2, fun j hj hj' => ?_⟩
      rcases Nat.lt_or_ge j k with h | h
      · exact hlt j h hj'
      · have : j = k := by omega
        subst this; exact hw
    · simp (disch := omega) only [go_sem]
      exact stop (fun _ h => hw h) N2 g2
  · simp (disch := omega) only [go_sem, kw, dec_f, undef, Bool.false_eq_true, if_false]
    exact stop (fun h => absurd h hk') N (Fr.refl _ _)
end Go.Fw
